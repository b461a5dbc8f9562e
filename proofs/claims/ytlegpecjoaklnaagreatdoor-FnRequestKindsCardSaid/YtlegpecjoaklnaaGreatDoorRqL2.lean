/- Walk: the law FnRequestKinds. (Printed by gen_rqlaws.py.) -/
import Derived.Test.YtlegpecjoaklnaaGreatDoorDrawRqs
import Derived.Test.YtlegpecjoaklnaaGreatDoorJ14
import Derived.Deep.CutBlock
import Derived.Deep.DeepCutAuto
namespace Go.Proofs.YtlegpecjoaklnaaGreatDoor
set_option linter.unusedVariables false
open Go Go.RowKit
attribute [local go_sem ↓] Go.wp_at_zero Go.wp_at_succ

set_option maxRecDepth 100000 in
set_option maxHeartbeats 6400000 in
theorem requestKinds_walk (A : Option Addr) (n c : Nat) (w : World) (h : RdU w w.heap.size A n) (hc : n ≤ c) (hcm : c ≤ 9223372036854775807) :
    Calls Tryz.prog 7 #[.slice A n c] w fun e w' => e = .returned (.bool true) ∧ Below w.heap.size w w' := by
  by_cases kn : 1048576 < n
  · go_enter Tryz.func7, Tryz.ntmps7
    go_wp2
    go_ret
    exact ⟨rfl, Below.refl _ _⟩
  go_enter Tryz.func7, Tryz.ntmps7
  go_wp2_with fail
  refine (drawRequestDo_any A n c w h hc hcm).mono ?_; rintro e v1 ⟨A1, m1, c1, A2, m2, c2, room, us, ⟨kd, id, xs, gr, nm⟩, A3, m3, c3, rfl, hcr, hs, hm1, hc1, hc2, hx, hm3, hc3, hb⟩
  have B_1 := qh (hb)
  have C_1 := qh (hcr)
  have Q_1 := qh (show RdI v1 v1.heap.size A3 m3 xs from hx)
  clear hb
  clear hcr hx h
  have Hs := qh hs
  have Hq := qh (reqP_sh (room := room) (us := us) ⟨kd, id, xs, gr, nm⟩)
  clear hs
  have al := alloc_up v1 (.cells #[.slice A1 m1 c1, .slice A2 m2 c2] 26)
  have B_2 := qh (below_to B_1.out al)
  have C_2 := qh (C_1.out.up al)
  have Q_2 := qh (Q_1.out.up al)
  have hq := Blk.new v1 26 #[.slice A1 m1 c1, .slice A2 m2 c2]
  have Bc_2 := qh hq
  clear al hq B_1 C_1 Q_1
  have al := alloc_up (v1.alloc (.cells #[.slice A1 m1 c1, .slice A2 m2 c2] 26)) (.cells #[.int .i64 kd, .int .i64 id, .slice A3 m3 c3, .bool gr, .int .i64 nm] 35)
  have B_3 := qh (below_to B_2.out al)
  have C_3 := qh (C_2.out.up al)
  have Q_3 := qh (Q_2.out.up al)
  have Bc_3 := qh (Bc_2.out.below al Bc_2.out.lt)
  have hq := Blk.new (v1.alloc (.cells #[.slice A1 m1 c1, .slice A2 m2 c2] 26)) 35 #[.int .i64 kd, .int .i64 id, .slice A3 m3 c3, .bool gr, .int .i64 nm]
  rw [World.size_alloc] at hq
  have Br_3 := qh hq
  clear al hq B_2 C_2 Q_2 Bc_2
  obtain ⟨ro, uo, nn, hp⟩ : ∃ ro uo nn, reqP room us ⟨kd, id, xs, gr, nm⟩ = (ro, uo, nn) := ⟨_, _, _, rfl⟩
  have Hp := qh hp
  clear hp
  rw [Hp.out] at Hq
  dsimp only at Hq
  have yBc0 := Bc_3.out.cell 0
  have yBc1 := Bc_3.out.cell 1
  have yBr0 := Br_3.out.cell 0
  have yBr1 := Br_3.out.cell 1
  have yBr2 := Br_3.out.cell 2
  have yBr3 := Br_3.out.cell 3
  have yBr4 := Br_3.out.cell 4
  simp only [gT, gZ, gS] at yBc0 yBc1 yBr0 yBr1 yBr2 yBr3 yBr4
  go_wp2_with fail
  generalize (v1.alloc (.cells #[.slice A1 m1 c1, .slice A2 m2 c2] 26)).alloc (.cells #[.int .i64 kd, .int .i64 id, .slice A3 m3 c3, .bool gr, .int .i64 nm] 35) = z3 at B_3 C_3 Q_3 Bc_3 Br_3 yBc0 yBc1 yBr0 yBr1 yBr2 yBr3 yBr4 ⊢
  refine (requestDoI_any A1 A2 A3 m1 c1 m2 c2 m3 c3 room us ⟨kd, id, xs, gr, nm⟩ z3 C_3.out Hs.out.v Q_3.out hc3).mono ?_; rintro e v4 ⟨A4, m4, c4, A5, m5, c5, he, hoc, hb⟩
  simp only [Hp.out] at he hoc
  subst he
  have hl := hoc.len
  have hl2 := hoc.lenU
  have B_4 := qh (below_to B_3.out hb)
  have C_4 := qh (C_3.out.up hb)
  have Q_4 := qh (Q_3.out.up hb)
  have Bc_4 := qh (Bc_3.out.below hb Bc_3.out.lt)
  have Br_4 := qh (Br_3.out.below hb Br_3.out.lt)
  have D_4 := qh (hoc.rd (by have := Hq.out.2; omega) Hq.out.1)
  clear hb yBc0 yBc1 yBr0 yBr1 yBr2 yBr3 yBr4 B_3 C_3 Q_3 Bc_3 Br_3
  clear hoc
  have al := alloc_up v4 (.cells #[.slice A4 m4 c4, .slice A5 m5 c5] 26)
  have B_5 := qh (below_to B_4.out al)
  have C_5 := qh (C_4.out.up al)
  have Q_5 := qh (Q_4.out.up al)
  have Bc_5 := qh (Bc_4.out.below al Bc_4.out.lt)
  have Br_5 := qh (Br_4.out.below al Br_4.out.lt)
  have D_5 := qh (D_4.out.up al)
  have hq := Blk.new v4 26 #[.slice A4 m4 c4, .slice A5 m5 c5]
  have Bo_5 := qh hq
  clear al hq B_4 C_4 Q_4 Bc_4 Br_4 D_4
  have yBc0 := Bc_5.out.cell 0
  have yBc1 := Bc_5.out.cell 1
  have yBr0 := Br_5.out.cell 0
  have yBr1 := Br_5.out.cell 1
  have yBr2 := Br_5.out.cell 2
  have yBr3 := Br_5.out.cell 3
  have yBr4 := Br_5.out.cell 4
  have yBo0 := Bo_5.out.cell 0
  have yBo1 := Bo_5.out.cell 1
  simp only [gT, gZ, gS] at yBc0 yBc1 yBr0 yBr1 yBr2 yBr3 yBr4 yBo0 yBo1
  go_wp2_with fail
  generalize v4.alloc (.cells #[.slice A4 m4 c4, .slice A5 m5 c5] 26) = z5 at B_5 C_5 Q_5 Bc_5 Br_5 D_5 Bo_5 yBc0 yBc1 yBr0 yBr1 yBr2 yBr3 yBr4 yBo0 yBo1 ⊢
  refine (requestDoS_any A1 A2 A3 m1 c1 m2 c2 m3 c3 room us ⟨kd, id, xs, gr, nm⟩ z5 C_5.out Hs.out.v (by omega) Q_5.out hc3).mono ?_; rintro e v6 ⟨A6, m6, c6, A7, m7, c7, he, hoc, hb⟩
  simp only [Hp.out] at he hoc
  subst he
  obtain ⟨k1, k2, _, _⟩ := hoc.len
  obtain rfl : m6 = m4 := by omega
  obtain rfl : m7 = m5 := by omega
  have B_6 := qh (below_to B_5.out hb)
  have C_6 := qh (C_5.out.up hb)
  have Q_6 := qh (Q_5.out.up hb)
  have Bc_6 := qh (Bc_5.out.below hb Bc_5.out.lt)
  have Br_6 := qh (Br_5.out.below hb Br_5.out.lt)
  have D_6 := qh (D_5.out.up hb)
  have Bo_6 := qh (Bo_5.out.below hb Bo_5.out.lt)
  have E_6 := qh (hoc.rd)
  clear hb yBc0 yBc1 yBr0 yBr1 yBr2 yBr3 yBr4 yBo0 yBo1 B_5 C_5 Q_5 Bc_5 Br_5 D_5 Bo_5
  clear hoc k1 k2 hl hl2
  have al := alloc_up v6 (.cells #[.slice A6 m6 c6, .slice A7 m7 c7] 26)
  have B_7 := qh (below_to B_6.out al)
  have C_7 := qh (C_6.out.up al)
  have Q_7 := qh (Q_6.out.up al)
  have Bc_7 := qh (Bc_6.out.below al Bc_6.out.lt)
  have Br_7 := qh (Br_6.out.below al Br_6.out.lt)
  have D_7 := qh (D_6.out.up al)
  have Bo_7 := qh (Bo_6.out.below al Bo_6.out.lt)
  have E_7 := qh (E_6.out.up al)
  have hq := Blk.new v6 26 #[.slice A6 m6 c6, .slice A7 m7 c7]
  have Bw_7 := qh hq
  clear al hq B_6 C_6 Q_6 Bc_6 Br_6 D_6 Bo_6 E_6
  have hne : (nn != nn) = false := by simp
  have yBc0 := Bc_7.out.cell 0
  have yBc1 := Bc_7.out.cell 1
  have yBr0 := Br_7.out.cell 0
  have yBr1 := Br_7.out.cell 1
  have yBr2 := Br_7.out.cell 2
  have yBr3 := Br_7.out.cell 3
  have yBr4 := Br_7.out.cell 4
  have yBo0 := Bo_7.out.cell 0
  have yBo1 := Bo_7.out.cell 1
  have yBw0 := Bw_7.out.cell 0
  have yBw1 := Bw_7.out.cell 1
  simp only [gT, gZ, gS] at yBc0 yBc1 yBr0 yBr1 yBr2 yBr3 yBr4 yBo0 yBo1 yBw0 yBw1
  go_wp2_with fail
  generalize v6.alloc (.cells #[.slice A6 m6 c6, .slice A7 m7 c7] 26) = z7 at B_7 C_7 Q_7 Bc_7 Br_7 D_7 Bo_7 E_7 Bw_7 yBc0 yBc1 yBr0 yBr1 yBr2 yBr3 yBr4 yBo0 yBo1 yBw0 yBw1 ⊢
  refine (sameCluster_any A4 A5 A6 A7 m6 c4 m7 c5 c6 c7 _ _ z7 D_7.out E_7.out).mono ?_; rintro e v8 ⟨rfl, hb⟩
  have B_8 := qh (below_to B_7.out hb)
  have C_8 := qh (C_7.out.up hb)
  have Q_8 := qh (Q_7.out.up hb)
  have Bc_8 := qh (Bc_7.out.below hb Bc_7.out.lt)
  have Br_8 := qh (Br_7.out.below hb Br_7.out.lt)
  have D_8 := qh (D_7.out.up hb)
  have Bo_8 := qh (Bo_7.out.below hb Bo_7.out.lt)
  have E_8 := qh (E_7.out.up hb)
  have Bw_8 := qh (Bw_7.out.below hb Bw_7.out.lt)
  clear hb yBc0 yBc1 yBr0 yBr1 yBr2 yBr3 yBr4 yBo0 yBo1 yBw0 yBw1 B_7 C_7 Q_7 Bc_7 Br_7 D_7 Bo_7 E_7 Bw_7
  have yBc0 := Bc_8.out.cell 0
  have yBc1 := Bc_8.out.cell 1
  have yBr0 := Br_8.out.cell 0
  have yBr1 := Br_8.out.cell 1
  have yBr2 := Br_8.out.cell 2
  have yBr3 := Br_8.out.cell 3
  have yBr4 := Br_8.out.cell 4
  have yBo0 := Bo_8.out.cell 0
  have yBo1 := Bo_8.out.cell 1
  have yBw0 := Bw_8.out.cell 0
  have yBw1 := Bw_8.out.cell 1
  simp only [gT, gZ, gS] at yBc0 yBc1 yBr0 yBr1 yBr2 yBr3 yBr4 yBo0 yBo1 yBw0 yBw1
  go_wp2_with fail
  refine (clusterValidS_any A1 A2 m1 c1 m2 c2 room us v8 C_8.out Hs.out).mono ?_; rintro e v9 ⟨rfl, hb⟩
  have B_9 := qh (below_to B_8.out hb)
  have C_9 := qh (C_8.out.up hb)
  have Q_9 := qh (Q_8.out.up hb)
  have Bc_9 := qh (Bc_8.out.below hb Bc_8.out.lt)
  have Br_9 := qh (Br_8.out.below hb Br_8.out.lt)
  have D_9 := qh (D_8.out.up hb)
  have Bo_9 := qh (Bo_8.out.below hb Bo_8.out.lt)
  have E_9 := qh (E_8.out.up hb)
  have Bw_9 := qh (Bw_8.out.below hb Bw_8.out.lt)
  clear hb yBc0 yBc1 yBr0 yBr1 yBr2 yBr3 yBr4 yBo0 yBo1 yBw0 yBw1 B_8 C_8 Q_8 Bc_8 Br_8 D_8 Bo_8 E_8 Bw_8
  cases hok : clOk room us with
  | false =>
    have yBc0 := Bc_9.out.cell 0
    have yBc1 := Bc_9.out.cell 1
    have yBr0 := Br_9.out.cell 0
    have yBr1 := Br_9.out.cell 1
    have yBr2 := Br_9.out.cell 2
    have yBr3 := Br_9.out.cell 3
    have yBr4 := Br_9.out.cell 4
    have yBo0 := Bo_9.out.cell 0
    have yBo1 := Bo_9.out.cell 1
    have yBw0 := Bw_9.out.cell 0
    have yBw1 := Bw_9.out.cell 1
    simp only [gT, gZ, gS] at yBc0 yBc1 yBr0 yBr1 yBr2 yBr3 yBr4 yBo0 yBo1 yBw0 yBw1
    go_wp2_with fail
    refine (sameCluster_any A4 A5 A6 A7 m6 c4 m7 c5 c6 c7 _ _ v9 D_9.out E_9.out).mono ?_; rintro e v10 ⟨rfl, hb⟩
    have B_10 := qh (below_to B_9.out hb)
    have C_10 := qh (C_9.out.up hb)
    have Q_10 := qh (Q_9.out.up hb)
    have Bc_10 := qh (Bc_9.out.below hb Bc_9.out.lt)
    have Br_10 := qh (Br_9.out.below hb Br_9.out.lt)
    have D_10 := qh (D_9.out.up hb)
    have Bo_10 := qh (Bo_9.out.below hb Bo_9.out.lt)
    have E_10 := qh (E_9.out.up hb)
    have Bw_10 := qh (Bw_9.out.below hb Bw_9.out.lt)
    clear hb yBc0 yBc1 yBr0 yBr1 yBr2 yBr3 yBr4 yBo0 yBo1 yBw0 yBw1 B_9 C_9 Q_9 Bc_9 Br_9 D_9 Bo_9 E_9 Bw_9
    have yBc0 := Bc_10.out.cell 0
    have yBc1 := Bc_10.out.cell 1
    have yBr0 := Br_10.out.cell 0
    have yBr1 := Br_10.out.cell 1
    have yBr2 := Br_10.out.cell 2
    have yBr3 := Br_10.out.cell 3
    have yBr4 := Br_10.out.cell 4
    have yBo0 := Bo_10.out.cell 0
    have yBo1 := Bo_10.out.cell 1
    have yBw0 := Bw_10.out.cell 0
    have yBw1 := Bw_10.out.cell 1
    simp only [gT, gZ, gS] at yBc0 yBc1 yBr0 yBr1 yBr2 yBr3 yBr4 yBo0 yBo1 yBw0 yBw1
    go_wp2_with fail
    go_ret
    exact ⟨rfl, B_10.out⟩
  | true =>
    have Hok := qh hok
    clear hok
    have yBc0 := Bc_9.out.cell 0
    have yBc1 := Bc_9.out.cell 1
    have yBr0 := Br_9.out.cell 0
    have yBr1 := Br_9.out.cell 1
    have yBr2 := Br_9.out.cell 2
    have yBr3 := Br_9.out.cell 3
    have yBr4 := Br_9.out.cell 4
    have yBo0 := Bo_9.out.cell 0
    have yBo1 := Bo_9.out.cell 1
    have yBw0 := Bw_9.out.cell 0
    have yBw1 := Bw_9.out.cell 1
    simp only [gT, gZ, gS] at yBc0 yBc1 yBr0 yBr1 yBr2 yBr3 yBr4 yBo0 yBo1 yBw0 yBw1
    go_wp2_with fail
    refine (requestValidS_any ⟨kd, id, xs, gr, nm⟩ A3 m3 c3 v9 Q_9.out).mono ?_; rintro e v10 ⟨rfl, hb⟩
    have B_10 := qh (below_to B_9.out hb)
    have C_10 := qh (C_9.out.up hb)
    have Q_10 := qh (Q_9.out.up hb)
    have Bc_10 := qh (Bc_9.out.below hb Bc_9.out.lt)
    have Br_10 := qh (Br_9.out.below hb Br_9.out.lt)
    have D_10 := qh (D_9.out.up hb)
    have Bo_10 := qh (Bo_9.out.below hb Bo_9.out.lt)
    have E_10 := qh (E_9.out.up hb)
    have Bw_10 := qh (Bw_9.out.below hb Bw_9.out.lt)
    clear hb yBc0 yBc1 yBr0 yBr1 yBr2 yBr3 yBr4 yBo0 yBo1 yBw0 yBw1 B_9 C_9 Q_9 Bc_9 Br_9 D_9 Bo_9 E_9 Bw_9
    cases hr : rqOk ⟨kd, id, xs, gr, nm⟩ with
    | false =>
      have yBc0 := Bc_10.out.cell 0
      have yBc1 := Bc_10.out.cell 1
      have yBr0 := Br_10.out.cell 0
      have yBr1 := Br_10.out.cell 1
      have yBr2 := Br_10.out.cell 2
      have yBr3 := Br_10.out.cell 3
      have yBr4 := Br_10.out.cell 4
      have yBo0 := Bo_10.out.cell 0
      have yBo1 := Bo_10.out.cell 1
      have yBw0 := Bw_10.out.cell 0
      have yBw1 := Bw_10.out.cell 1
      simp only [gT, gZ, gS] at yBc0 yBc1 yBr0 yBr1 yBr2 yBr3 yBr4 yBo0 yBo1 yBw0 yBw1
      go_wp2_with fail
      refine (sameCluster_any A4 A5 A6 A7 m6 c4 m7 c5 c6 c7 _ _ v10 D_10.out E_10.out).mono ?_; rintro e v11 ⟨rfl, hb⟩
      have B_11 := qh (below_to B_10.out hb)
      have C_11 := qh (C_10.out.up hb)
      have Q_11 := qh (Q_10.out.up hb)
      have Bc_11 := qh (Bc_10.out.below hb Bc_10.out.lt)
      have Br_11 := qh (Br_10.out.below hb Br_10.out.lt)
      have D_11 := qh (D_10.out.up hb)
      have Bo_11 := qh (Bo_10.out.below hb Bo_10.out.lt)
      have E_11 := qh (E_10.out.up hb)
      have Bw_11 := qh (Bw_10.out.below hb Bw_10.out.lt)
      clear hb yBc0 yBc1 yBr0 yBr1 yBr2 yBr3 yBr4 yBo0 yBo1 yBw0 yBw1 B_10 C_10 Q_10 Bc_10 Br_10 D_10 Bo_10 E_10 Bw_10
      have yBc0 := Bc_11.out.cell 0
      have yBc1 := Bc_11.out.cell 1
      have yBr0 := Br_11.out.cell 0
      have yBr1 := Br_11.out.cell 1
      have yBr2 := Br_11.out.cell 2
      have yBr3 := Br_11.out.cell 3
      have yBr4 := Br_11.out.cell 4
      have yBo0 := Bo_11.out.cell 0
      have yBo1 := Bo_11.out.cell 1
      have yBw0 := Bw_11.out.cell 0
      have yBw1 := Bw_11.out.cell 1
      simp only [gT, gZ, gS] at yBc0 yBc1 yBr0 yBr1 yBr2 yBr3 yBr4 yBo0 yBo1 yBw0 yBw1
      go_wp2_with fail
      go_ret
      exact ⟨rfl, B_11.out⟩
    | true =>
      have Hr := qh hr
      clear hr
      by_cases h5 : kd = 5
      · have k5 : (kd == 5) = true := by rw [h5]; rfl
        clear h5
        have yBc0 := Bc_10.out.cell 0
        have yBc1 := Bc_10.out.cell 1
        have yBr0 := Br_10.out.cell 0
        have yBr1 := Br_10.out.cell 1
        have yBr2 := Br_10.out.cell 2
        have yBr3 := Br_10.out.cell 3
        have yBr4 := Br_10.out.cell 4
        have yBo0 := Bo_10.out.cell 0
        have yBo1 := Bo_10.out.cell 1
        have yBw0 := Bw_10.out.cell 0
        have yBw1 := Bw_10.out.cell 1
        simp only [gT, gZ, gS] at yBc0 yBc1 yBr0 yBr1 yBr2 yBr3 yBr4 yBo0 yBo1 yBw0 yBw1
        go_wp2_with fail
        refine (sameCluster_any A4 A5 A6 A7 m6 c4 m7 c5 c6 c7 _ _ v10 D_10.out E_10.out).mono ?_; rintro e v11 ⟨rfl, hb⟩
        have B_11 := qh (below_to B_10.out hb)
        have C_11 := qh (C_10.out.up hb)
        have Q_11 := qh (Q_10.out.up hb)
        have Bc_11 := qh (Bc_10.out.below hb Bc_10.out.lt)
        have Br_11 := qh (Br_10.out.below hb Br_10.out.lt)
        have D_11 := qh (D_10.out.up hb)
        have Bo_11 := qh (Bo_10.out.below hb Bo_10.out.lt)
        have E_11 := qh (E_10.out.up hb)
        have Bw_11 := qh (Bw_10.out.below hb Bw_10.out.lt)
        clear hb yBc0 yBc1 yBr0 yBr1 yBr2 yBr3 yBr4 yBo0 yBo1 yBw0 yBw1 B_10 C_10 Q_10 Bc_10 Br_10 D_10 Bo_10 E_10 Bw_10
        have yBc0 := Bc_11.out.cell 0
        have yBc1 := Bc_11.out.cell 1
        have yBr0 := Br_11.out.cell 0
        have yBr1 := Br_11.out.cell 1
        have yBr2 := Br_11.out.cell 2
        have yBr3 := Br_11.out.cell 3
        have yBr4 := Br_11.out.cell 4
        have yBo0 := Bo_11.out.cell 0
        have yBo1 := Bo_11.out.cell 1
        have yBw0 := Bw_11.out.cell 0
        have yBw1 := Bw_11.out.cell 1
        simp only [gT, gZ, gS] at yBc0 yBc1 yBr0 yBr1 yBr2 yBr3 yBr4 yBo0 yBo1 yBw0 yBw1
        go_wp2_with fail
        go_ret
        exact ⟨rfl, B_11.out⟩
      · have k5 : (kd == 5) = false := by simpa using h5
        have H5 := qh h5
        clear h5
        have yBc0 := Bc_10.out.cell 0
        have yBc1 := Bc_10.out.cell 1
        have yBr0 := Br_10.out.cell 0
        have yBr1 := Br_10.out.cell 1
        have yBr2 := Br_10.out.cell 2
        have yBr3 := Br_10.out.cell 3
        have yBr4 := Br_10.out.cell 4
        have yBo0 := Bo_10.out.cell 0
        have yBo1 := Bo_10.out.cell 1
        have yBw0 := Bw_10.out.cell 0
        have yBw1 := Bw_10.out.cell 1
        simp only [gT, gZ, gS] at yBc0 yBc1 yBr0 yBr1 yBr2 yBr3 yBr4 yBo0 yBo1 yBw0 yBw1
        go_wp2_with fail
        refine (clusterArriveI_any A1 A2 m1 c1 m2 c2 room us A3 m3 c3 id xs gr v10 C_10.out Hs.out.v Q_10.out hc3).mono ?_; rintro e v11 ⟨A8, m8, c8, A9, m9, c9, he, hoc, hb⟩
        obtain ⟨rx, ux, nx, hpx⟩ : ∃ rx ux nx, cavP room us id xs gr = (rx, ux, nx) := ⟨_, _, _, rfl⟩
        simp only [hpx] at he hoc
        subst he
        have HX := qh hpx
        have HO := qh hoc
        clear hpx hoc
        have B_11 := qh (below_to B_10.out hb)
        have C_11 := qh (C_10.out.up hb)
        have Q_11 := qh (Q_10.out.up hb)
        have Bc_11 := qh (Bc_10.out.below hb Bc_10.out.lt)
        have Br_11 := qh (Br_10.out.below hb Br_10.out.lt)
        have D_11 := qh (D_10.out.up hb)
        have Bo_11 := qh (Bo_10.out.below hb Bo_10.out.lt)
        have E_11 := qh (E_10.out.up hb)
        have Bw_11 := qh (Bw_10.out.below hb Bw_10.out.lt)
        clear hb yBc0 yBc1 yBr0 yBr1 yBr2 yBr3 yBr4 yBo0 yBo1 yBw0 yBw1 B_10 C_10 Q_10 Bc_10 Br_10 D_10 Bo_10 E_10 Bw_10
        have al := alloc_up v11 (.cells #[.slice A8 m8 c8, .slice A9 m9 c9] 26)
        have ZS := qh al
        have BX := qh (Blk.new v11 26 #[.slice A8 m8 c8, .slice A9 m9 c9])
        clear al
        have yr0 := (Br_11.out.below ZS.out Br_11.out.lt).cell 0
        simp only [gT, gZ] at yr0
        clear k5
        go_upto_block 0 with fail
        generalize v11.alloc (.cells #[.slice A8 m8 c8, .slice A9 m9 c9] 26) = z at ZS BX yr0 ⊢
        go_cut [10] (fun v10 wx => ∃ (A8 : Option Addr) (c8 : Nat) (A9 : Option Addr) (c9 : Nat), v10 = .int .i64 nn ∧ Blk wx v11.heap.size 26 #[.slice A8 m6 c8, .slice A9 m7 c9] ∧ RdC wx A8 A9 m6 m7 ro uo ∧ Below v11.heap.size v11 wx)
        case first =>
          have lxz := BX.out.lt
          have CZ := qh (C_11.out.up ZS.out)
          have yBc0 := (Bc_11.out.below ZS.out Bc_11.out.lt).cell 0
          have yBc1 := (Bc_11.out.below ZS.out Bc_11.out.lt).cell 1
          have yBr0 := (Br_11.out.below ZS.out Br_11.out.lt).cell 0
          have yBr1 := (Br_11.out.below ZS.out Br_11.out.lt).cell 1
          have yBr2 := (Br_11.out.below ZS.out Br_11.out.lt).cell 2
          have yBr3 := (Br_11.out.below ZS.out Br_11.out.lt).cell 3
          have yBr4 := (Br_11.out.below ZS.out Br_11.out.lt).cell 4
          simp only [gT, gZ, gS] at yBc0 yBc1 yBr0 yBr1 yBr2 yBr3 yBr4
          clear yr0
          rcases rq_kind Hr.out with hk | hk | hk | hk | hk
          · obtain rfl : kd = 1 := hk
            have e1 := (req_arrive Hok.out Hr.out rfl).symm.trans Hp.out
            have e2 := HX.out.symm.trans e1
            injection e2 with e3 e4
            injection e4 with e4 e5
            subst e3 e4 e5
            clear e1
            have XC := qh ((HO.out.rd (by have := HO.out.len; have := Hq.out.2; omega) Hq.out.1).up ZS.out)
            obtain rfl : m6 = m8 := by have := (D_11.out).a.len; have := HO.out.len; omega
            obtain rfl : m7 = m9 := by have := (D_11.out).b.len; have := HO.out.lenU; omega
            go_wp2_with fail
            go_meet
            case rel => exact ⟨_, _, _, _, rfl, BX.out, XC.out, ZS.out⟩
          · obtain rfl : kd = 2 := hk
            have e1 := (req_depart Hok.out Hr.out rfl).symm.trans Hp.out
            dsimp only at e1
            go_wp2_with fail
            refine (clusterDepartI_any A1 A2 m1 c1 m2 c2 room us nm z CZ.out Hs.out.v).mono ?_; rintro e v ⟨A10, m10, c10, A11, m11, c11, he, hoc, hb⟩
            simp only [e1] at he hoc
            subst he
            obtain rfl : m6 = m10 := by have := (D_11.out).a.len; have := hoc.len; omega
            obtain rfl : m7 = m11 := by have := (D_11.out).b.len; have := hoc.lenU; omega
            have BV := qh (BX.out.below hb BX.out.lt)
            have HV := qh hoc
            have ZV := qh (ZS.out.trans (hb.mono ZS.out.size))
            clear hoc hb yBc0 yBc1 yBr0 yBr1 yBr2 yBr3 yBr4
            have x0 := BV.out.cell 0
            have x1 := BV.out.cell 1
            simp only [gT, gZ, gS] at x0 x1
            have f0 := BV.out.frozen 0
            have f1 := BV.out.frozen 1
            go_wp2_with fail
            go_meet
            case rel =>
              have KT := (KeepTU.set_ (BV.out) (by decide) (by decide) (by decide) 0 (.slice A10 m6 c10)).trans (KeepTU.set_ ((BV.out).set_ 0 (.slice A10 m6 c10)) (by decide) (by decide) (by decide) 1 (.slice A11 m7 c11))
              exact ⟨A10, c10, A11, c11, rfl, ((BV.out).set_ 0 (.slice A10 m6 c10)).set_ 1 (.slice A11 m7 c11), (HV.out.keepTU KT).rd (by have := HV.out.len; have := Hq.out.2; omega) Hq.out.1, (ZV.out.setCell (p := ⟨v11.heap.size, 0, none⟩) (Nat.le_refl _) _).setCell (p := ⟨v11.heap.size, 1, none⟩) (Nat.le_refl _) _⟩
          · obtain rfl : kd = 3 := hk
            have e1 := (req_open Hok.out Hr.out rfl).symm.trans Hp.out
            dsimp only at e1
            go_wp2_with fail
            refine (clusterOpenI_any A1 A2 m1 c1 m2 c2 room us nm true z CZ.out Hs.out.v).mono ?_; rintro e v ⟨A10, m10, c10, A11, m11, c11, he, hoc, hb⟩
            simp only [e1] at he hoc
            subst he
            obtain rfl : m6 = m10 := by have := (D_11.out).a.len; have := hoc.len; omega
            obtain rfl : m7 = m11 := by have := (D_11.out).b.len; have := hoc.lenU; omega
            have BV := qh (BX.out.below hb BX.out.lt)
            have HV := qh hoc
            have ZV := qh (ZS.out.trans (hb.mono ZS.out.size))
            clear hoc hb yBc0 yBc1 yBr0 yBr1 yBr2 yBr3 yBr4
            have x0 := BV.out.cell 0
            have x1 := BV.out.cell 1
            simp only [gT, gZ, gS] at x0 x1
            have f0 := BV.out.frozen 0
            have f1 := BV.out.frozen 1
            go_wp2_with fail
            go_meet
            case rel =>
              have KT := (KeepTU.set_ (BV.out) (by decide) (by decide) (by decide) 0 (.slice A10 m6 c10)).trans (KeepTU.set_ ((BV.out).set_ 0 (.slice A10 m6 c10)) (by decide) (by decide) (by decide) 1 (.slice A11 m7 c11))
              exact ⟨A10, c10, A11, c11, rfl, ((BV.out).set_ 0 (.slice A10 m6 c10)).set_ 1 (.slice A11 m7 c11), (HV.out.keepTU KT).rd (by have := HV.out.len; have := Hq.out.2; omega) Hq.out.1, (ZV.out.setCell (p := ⟨v11.heap.size, 0, none⟩) (Nat.le_refl _) _).setCell (p := ⟨v11.heap.size, 1, none⟩) (Nat.le_refl _) _⟩
          · obtain rfl : kd = 4 := hk
            have e1 := (req_close Hok.out Hr.out rfl).symm.trans Hp.out
            dsimp only at e1
            go_wp2_with fail
            refine (clusterOpenI_any A1 A2 m1 c1 m2 c2 room us nm false z CZ.out Hs.out.v).mono ?_; rintro e v ⟨A10, m10, c10, A11, m11, c11, he, hoc, hb⟩
            simp only [e1] at he hoc
            subst he
            obtain rfl : m6 = m10 := by have := (D_11.out).a.len; have := hoc.len; omega
            obtain rfl : m7 = m11 := by have := (D_11.out).b.len; have := hoc.lenU; omega
            have BV := qh (BX.out.below hb BX.out.lt)
            have HV := qh hoc
            have ZV := qh (ZS.out.trans (hb.mono ZS.out.size))
            clear hoc hb yBc0 yBc1 yBr0 yBr1 yBr2 yBr3 yBr4
            have x0 := BV.out.cell 0
            have x1 := BV.out.cell 1
            simp only [gT, gZ, gS] at x0 x1
            have f0 := BV.out.frozen 0
            have f1 := BV.out.frozen 1
            go_wp2_with fail
            go_meet
            case rel =>
              have KT := (KeepTU.set_ (BV.out) (by decide) (by decide) (by decide) 0 (.slice A10 m6 c10)).trans (KeepTU.set_ ((BV.out).set_ 0 (.slice A10 m6 c10)) (by decide) (by decide) (by decide) 1 (.slice A11 m7 c11))
              exact ⟨A10, c10, A11, c11, rfl, ((BV.out).set_ 0 (.slice A10 m6 c10)).set_ 1 (.slice A11 m7 c11), (HV.out.keepTU KT).rd (by have := HV.out.len; have := Hq.out.2; omega) Hq.out.1, (ZV.out.setCell (p := ⟨v11.heap.size, 0, none⟩) (Nat.le_refl _) _).setCell (p := ⟨v11.heap.size, 1, none⟩) (Nat.le_refl _) _⟩
          · exact absurd hk H5.out
        case rest =>
          obtain ⟨A10, c10, A11, c11, rfl, hB, hX, hZ⟩ := hcut
          obtain ⟨w7, rfl⟩ : ∃ w7 : World, w7 = wc := ⟨_, rfl⟩
          have B_90 := qh (below_to B_11.out hZ)
          have D_90 := qh (D_11.out.up hZ)
          have Bo_90 := qh (Bo_11.out.below hZ Bo_11.out.lt)
          have X_90 := qh hX
          have Bx_90 := qh hB
          clear hB hX hZ ZS BX yr0 HX HO
          have heq : (nn == nn) = true := by simp
          have yBo0 := Bo_90.out.cell 0
          have yBo1 := Bo_90.out.cell 1
          have yBx0 := Bx_90.out.cell 0
          have yBx1 := Bx_90.out.cell 1
          simp only [gT, gZ, gS] at yBo0 yBo1 yBx0 yBx1
          go_wp2_with fail
          refine (sameCluster_any A10 A11 A4 A5 m6 c10 m7 c11 c4 c5 _ _ w7 X_90.out D_90.out).mono ?_; rintro e v91 ⟨rfl, hb⟩
          have B_91 := qh (below_to B_90.out hb)
          have D_91 := qh (D_90.out.up hb)
          have Bo_91 := qh (Bo_90.out.below hb Bo_90.out.lt)
          have X_91 := qh (X_90.out.up hb)
          have Bx_91 := qh (Bx_90.out.below hb Bx_90.out.lt)
          clear hb yBo0 yBo1 yBx0 yBx1 B_90 D_90 Bo_90 X_90 Bx_90
          have yBo0 := Bo_91.out.cell 0
          have yBo1 := Bo_91.out.cell 1
          have yBx0 := Bx_91.out.cell 0
          have yBx1 := Bx_91.out.cell 1
          simp only [gT, gZ, gS] at yBo0 yBo1 yBx0 yBx1
          go_wp2_with fail
          go_ret
          exact ⟨rfl, B_91.out⟩
end Go.Proofs.YtlegpecjoaklnaaGreatDoor
