/- Walk: the law FnBatchNeedNone. (Printed by gen_balaws.py.) -/
import Derived.Test.YtjjnbbkdjimcoaaGreatDrawBa
import Derived.Test.YtjjnbbkdjimcoaaGreatJ14
import Derived.Test.YtjjnbbkdjimcoaaGreatBaKit
import Derived.Test.YtjjnbbkdjimcoaaGreatBatchU
import Derived.Test.YtjjnbbkdjimcoaaGreatBatchE
import Derived.Test.YtjjnbbkdjimcoaaGreatRqRows
namespace Go.Proofs.YtjjnbbkdjimcoaaGreat
set_option linter.unusedVariables false
open Go Go.RowKit
attribute [local go_sem ↓] Go.wp_at_zero Go.wp_at_succ

set_option maxRecDepth 100000 in
set_option maxHeartbeats 6400000 in
theorem batchNeedNone_walk (A : Option Addr) (n c : Nat) (w : World) (h : RdU w w.heap.size A n) (hc : n ≤ c) (hcm : c ≤ 9223372036854775807) :
    Calls Tryz.prog 3 #[.slice A n c] w fun e w' => e = .returned (.bool true) ∧ Below w.heap.size w w' := by
  by_cases kn : 1048576 < n
  · go_enter Tryz.func3, Tryz.ntmps3
    go_wp2
    go_ret
    exact ⟨rfl, Below.refl _ _⟩
  go_enter Tryz.func3, Tryz.ntmps3
  go_wp2_with fail
  refine (drawBatchNeed_any A n c w h hc hcm).mono ?_; rintro e v1 ⟨A1, m1, c1, A2, m2, c2, room, us, At, nt, ct, ts, rfl, hcr, hs, hm1, hc1, hc2, ht, hnt, hct, hb⟩
  have B_1 := qh (hb)
  have C_1 := qh (hcr)
  have T_1 := qh (ht)
  clear hb
  have hlt := ht.len
  clear hcr ht h
  have Hs := qh hs
  have Hlt := qh hlt
  clear hs hlt
  have al := alloc_up v1 (.cells #[.slice A1 m1 c1, .slice A2 m2 c2] 26)
  have B_2 := qh (below_to B_1.out al)
  have C_2 := qh (C_1.out.up al)
  have T_2 := qh (T_1.out.up al)
  have hq := Blk.new v1 26 #[.slice A1 m1 c1, .slice A2 m2 c2]
  have Bc_2 := qh hq
  clear al hq B_1 C_1 T_1
  have yBc0 := Bc_2.out.cell 0
  have yBc1 := Bc_2.out.cell 1
  simp only [gT, gZ, gS] at yBc0 yBc1
  go_wp2_with fail
  generalize v1.alloc (.cells #[.slice A1 m1 c1, .slice A2 m2 c2] 26) = z2 at B_2 C_2 T_2 Bc_2 yBc0 yBc1 ⊢
  refine (batchNeedI_any A1 A2 At m1 c1 m2 c2 nt ct room us ts z2 C_2.out Hs.out.v T_2.out).mono ?_; rintro e v3 ⟨rfl, hb⟩
  have B_3 := qh (below_to B_2.out hb)
  have C_3 := qh (C_2.out.up hb)
  have T_3 := qh (T_2.out.up hb)
  have Bc_3 := qh (Bc_2.out.below hb Bc_2.out.lt)
  clear hb yBc0 yBc1 B_2 C_2 T_2 Bc_2
  have yBc0 := Bc_3.out.cell 0
  have yBc1 := Bc_3.out.cell 1
  simp only [gT, gZ, gS] at yBc0 yBc1
  go_wp2_with fail
  refine (batchNeedS_any A1 A2 At m1 c1 m2 c2 nt ct room us ts v3 C_3.out Hs.out.v T_3.out).mono ?_; rintro e v4 ⟨rfl, hb⟩
  have B_4 := qh (below_to B_3.out hb)
  have C_4 := qh (C_3.out.up hb)
  have T_4 := qh (T_3.out.up hb)
  have Bc_4 := qh (Bc_3.out.below hb Bc_3.out.lt)
  clear hb yBc0 yBc1 B_3 C_3 T_3 Bc_3
  have Hq := qh (fun (hc : clOk room us = true) (ht : tasksOk room ts = true) => need_none hc ht)
  generalize needP room us ts = q at Hq ⊢
  have hne : (q != q) = false := by simp
  have heq : (q == q) = true := by simp
  have yBc0 := Bc_4.out.cell 0
  have yBc1 := Bc_4.out.cell 1
  simp only [gT, gZ, gS] at yBc0 yBc1
  go_wp2_with fail
  refine (clusterValidS_any A1 A2 m1 c1 m2 c2 room us v4 C_4.out Hs.out).mono ?_; rintro e v5 ⟨rfl, hb⟩
  have B_5 := qh (below_to B_4.out hb)
  have C_5 := qh (C_4.out.up hb)
  have T_5 := qh (T_4.out.up hb)
  have Bc_5 := qh (Bc_4.out.below hb Bc_4.out.lt)
  clear hb yBc0 yBc1 B_4 C_4 T_4 Bc_4
  cases hok : clOk room us with
  | false =>
    have yBc0 := Bc_5.out.cell 0
    have yBc1 := Bc_5.out.cell 1
    simp only [gT, gZ, gS] at yBc0 yBc1
    go_wp2_with fail
    go_ret
    exact ⟨rfl, B_5.out⟩
  | true =>
    have Hok := qh hok
    clear hok
    have yBc0 := Bc_5.out.cell 0
    have yBc1 := Bc_5.out.cell 1
    simp only [gT, gZ, gS] at yBc0 yBc1
    go_wp2_with fail
    refine (tasksValidS_any A1 At m1 c1 nt ct room ts v5 C_5.out.a T_5.out).mono ?_; rintro e v6 ⟨rfl, mq, hw⟩
    have hb := drew_below v5 mq
    rw [hw] at hb
    clear hw
    have B_6 := qh (below_to B_5.out hb)
    have C_6 := qh (C_5.out.up hb)
    have T_6 := qh (T_5.out.up hb)
    have Bc_6 := qh (Bc_5.out.below hb Bc_5.out.lt)
    clear hb yBc0 yBc1 B_5 C_5 T_5 Bc_5
    cases htk : tasksOk room ts with
    | false =>
      have yBc0 := Bc_6.out.cell 0
      have yBc1 := Bc_6.out.cell 1
      simp only [gT, gZ, gS] at yBc0 yBc1
      go_wp2_with fail
      go_ret
      exact ⟨rfl, B_6.out⟩
    | true =>
      have Htk := qh htk
      clear htk
      have hq := Hq.out Hok.out Htk.out
      have Hq2 := qh hq
      clear hq
      have yBc0 := Bc_6.out.cell 0
      have yBc1 := Bc_6.out.cell 1
      simp only [gT, gZ, gS] at yBc0 yBc1
      go_wp2_with fail
      refine (batchAllI_any A1 A2 At m1 c1 m2 c2 nt ct 10 room us ts v6 C_6.out Hs.out.v T_6.out).mono ?_; rintro e v7 ⟨A4, m4, c4, A5, m5, c5, rfl, hoc, hb⟩
      have B_7 := qh (below_to B_6.out hb)
      have C_7 := qh (C_6.out.up hb)
      have T_7 := qh (T_6.out.up hb)
      have Bc_7 := qh (Bc_6.out.below hb Bc_6.out.lt)
      clear hb yBc0 yBc1 B_6 C_6 T_6 Bc_6
      clear hoc
      have hq := Hq2.out
      generalize (ballP room us ts 10).2.2 = fine at hq ⊢
      clear Hq Hq2
      have al := alloc_up v7 (.cells #[.slice A4 m4 c4, .slice A5 m5 c5] 26)
      have B_8 := qh (below_to B_7.out al)
      have C_8 := qh (C_7.out.up al)
      have T_8 := qh (T_7.out.up al)
      have Bc_8 := qh (Bc_7.out.below al Bc_7.out.lt)
      have hq := Blk.new v7 26 #[.slice A4 m4 c4, .slice A5 m5 c5]
      have Bx_8 := qh hq
      clear al hq B_7 C_7 T_7 Bc_7
      by_cases h0 : 0 ≤ q
      · obtain rfl : fine = true := by simpa [h0] using hq
        have d0 : decide (0 ≤ q) = true := by simpa using h0
        clear hq
        have yBc0 := Bc_8.out.cell 0
        have yBc1 := Bc_8.out.cell 1
        have yBx0 := Bx_8.out.cell 0
        have yBx1 := Bx_8.out.cell 1
        simp only [gT, gZ, gS] at yBc0 yBc1 yBx0 yBx1
        go_wp2_with fail
        generalize v7.alloc (.cells #[.slice A4 m4 c4, .slice A5 m5 c5] 26) = z8 at B_8 C_8 T_8 Bc_8 Bx_8 yBc0 yBc1 yBx0 yBx1 ⊢
        go_ret
        exact ⟨rfl, B_8.out⟩
      · obtain rfl : fine = false := by simpa [h0] using hq
        have d0 : decide (0 ≤ q) = false := by simpa using h0
        clear hq
        have yBc0 := Bc_8.out.cell 0
        have yBc1 := Bc_8.out.cell 1
        have yBx0 := Bx_8.out.cell 0
        have yBx1 := Bx_8.out.cell 1
        simp only [gT, gZ, gS] at yBc0 yBc1 yBx0 yBx1
        go_wp2_with fail
        generalize v7.alloc (.cells #[.slice A4 m4 c4, .slice A5 m5 c5] 26) = z8 at B_8 C_8 T_8 Bc_8 Bx_8 yBc0 yBc1 yBx0 yBx1 ⊢
        go_ret
        exact ⟨rfl, B_8.out⟩
end Go.Proofs.YtjjnbbkdjimcoaaGreat
