/- Walk: the law FnGatherNone. (Printed by gen_rqlaws.py.) -/
import Derived.Test.YtlegpecjoaklnaaGreatDoorDrawRqs
import Derived.Test.YtlegpecjoaklnaaGreatDoorJ14
import Derived.Test.YtlegpecjoaklnaaGreatDoorWhereI
import Derived.Test.YtlegpecjoaklnaaGreatDoorSpCounts
namespace Go.Proofs.YtlegpecjoaklnaaGreatDoor
set_option linter.unusedVariables false
open Go Go.RowKit
attribute [local go_sem ↓] Go.wp_at_zero Go.wp_at_succ

set_option maxRecDepth 100000 in
set_option maxHeartbeats 6400000 in
theorem gatherNone_walk (A : Option Addr) (n c : Nat) (w : World) (h : RdU w w.heap.size A n) (hc : n ≤ c) (hcm : c ≤ 9223372036854775807) :
    Calls Tryz.prog 3 #[.slice A n c] w fun e w' => e = .returned (.bool true) ∧ Below w.heap.size w w' := by
  by_cases kn : 1048576 < n
  · go_enter Tryz.func3, Tryz.ntmps3
    go_wp2
    go_ret
    exact ⟨rfl, Below.refl _ _⟩
  go_enter Tryz.func3, Tryz.ntmps3
  go_wp2_with fail
  refine (drawClusterCounts_any A n c w h hc hcm).mono ?_; rintro e v1 ⟨A1, m1, c1, A2, m2, c2, room, us, rfl, hcr, hs, hm1, hc1, hc2, hb⟩
  have B_1 := qh (hb)
  have C_1 := qh (hcr)
  clear hb
  clear hcr h
  have Hs := qh hs
  clear hs
  have al := alloc_up v1 (.cells #[.slice A1 m1 c1, .slice A2 m2 c2] 26)
  have B_2 := qh (below_to B_1.out al)
  have C_2 := qh (C_1.out.up al)
  have hq := Blk.new v1 26 #[.slice A1 m1 c1, .slice A2 m2 c2]
  have Bc_2 := qh hq
  clear al hq B_1 C_1
  have yBc0 := Bc_2.out.cell 0
  have yBc1 := Bc_2.out.cell 1
  simp only [gT, gZ, gS] at yBc0 yBc1
  go_wp2_with fail
  generalize v1.alloc (.cells #[.slice A1 m1 c1, .slice A2 m2 c2] 26) = z2 at B_2 C_2 Bc_2 yBc0 yBc1 ⊢
  refine (clusterCountsI_any A1 A2 m1 c1 m2 c2 room us z2 C_2.out Hs.out).mono ?_; rintro e v3 ⟨A4, m4, c4, rfl, hown, hb⟩
  have l4 := own_len hown
  have B_3 := qh (below_to B_2.out hb)
  have C_3 := qh (C_2.out.up hb)
  have Bc_3 := qh (Bc_2.out.below hb Bc_2.out.lt)
  have K_3 := qh (own_rdI hown (own_le hown))
  clear hb yBc0 yBc1 B_2 C_2 Bc_2
  clear hown
  have yBc0 := Bc_3.out.cell 0
  have yBc1 := Bc_3.out.cell 1
  simp only [gT, gZ, gS] at yBc0 yBc1
  go_wp2_with fail
  refine (clusterCountsS_any A1 A2 m1 c1 m2 c2 room us v3 C_3.out Hs.out).mono ?_; rintro e v4 ⟨A5, m5, c5, rfl, hown, hb⟩
  obtain rfl : m4 = m5 := by have := own_len hown; omega
  have B_4 := qh (below_to B_3.out hb)
  have C_4 := qh (C_3.out.up hb)
  have Bc_4 := qh (Bc_3.out.below hb Bc_3.out.lt)
  have K_4 := qh (K_3.out.up hb)
  have T_4 := qh (own_rdI hown (own_le hown))
  clear hb yBc0 yBc1 B_3 C_3 Bc_3 K_3
  clear hown
  have yBc0 := Bc_4.out.cell 0
  have yBc1 := Bc_4.out.cell 1
  simp only [gT, gZ, gS] at yBc0 yBc1
  go_wp2_with fail
  refine (sameInts_any A4 A5 m4 c4 c5 _ _ _ v4 K_4.out T_4.out).mono ?_; rintro e v5 ⟨rfl, mq, hw⟩
  have hb := drew_below v4 mq
  rw [hw] at hb
  clear hw
  have B_5 := qh (below_to B_4.out hb)
  have C_5 := qh (C_4.out.up hb)
  have Bc_5 := qh (Bc_4.out.below hb Bc_4.out.lt)
  have K_5 := qh (K_4.out.up hb)
  have T_5 := qh (T_4.out.up hb)
  clear hb yBc0 yBc1 B_4 C_4 Bc_4 K_4 T_4
  cases hok : clOk room us with
  | false =>
    obtain rfl : m4 = 0 := by rw [← l4]; unfold countsP; rw [hok]; rfl
    have yBc0 := Bc_5.out.cell 0
    have yBc1 := Bc_5.out.cell 1
    simp only [gT, gZ, gS] at yBc0 yBc1
    go_wp2_with fail
    refine (sameInts_any A4 A5 0 c4 c5 _ _ _ v5 K_5.out T_5.out).mono ?_; rintro e v6 ⟨rfl, mq, hw⟩
    have hb := drew_below v5 mq
    rw [hw] at hb
    clear hw
    have B_6 := qh (below_to B_5.out hb)
    have C_6 := qh (C_5.out.up hb)
    have Bc_6 := qh (Bc_5.out.below hb Bc_5.out.lt)
    have K_6 := qh (K_5.out.up hb)
    have T_6 := qh (T_5.out.up hb)
    clear hb yBc0 yBc1 B_5 C_5 Bc_5 K_5 T_5
    have yBc0 := Bc_6.out.cell 0
    have yBc1 := Bc_6.out.cell 1
    simp only [gT, gZ, gS] at yBc0 yBc1
    go_wp2_with fail
    go_ret
    exact ⟨rfl, B_6.out⟩
  | true =>
    obtain rfl : m4 = 3 := by rw [← l4]; unfold countsP; rw [hok]; rfl
    have Hok := qh hok
    clear hok l4
    have e1 : reqP room us ⟨5, 0, [], false, 0⟩ = (room, us, 0) := by rw [req_gather Hok.out rfl rfl, gather_zero]
    have HE := qh e1
    clear e1
    have yBc0 := Bc_5.out.cell 0
    have yBc1 := Bc_5.out.cell 1
    simp only [gT, gZ, gS] at yBc0 yBc1
    go_wp2_with fail
    refine (requestDoI_any A1 A2 none m1 c1 m2 c2 0 0 room us ⟨5, 0, [], false, 0⟩ v5 C_5.out Hs.out.v RdI.nil (Nat.le_refl 0)).mono ?_; rintro e v6 ⟨A6, m6, c6, A7, m7, c7, he, hoc, hb⟩
    simp only [HE.out] at he hoc
    subst he
    obtain rfl : m1 = m6 := by have := hoc.len; have := (C_5.out).a.len; omega
    obtain rfl : m2 = m7 := by have := hoc.lenU; have := (C_5.out).b.len; omega
    have B_6 := qh (below_to B_5.out hb)
    have C_6 := qh (C_5.out.up hb)
    have Bc_6 := qh (Bc_5.out.below hb Bc_5.out.lt)
    have K_6 := qh (K_5.out.up hb)
    have T_6 := qh (T_5.out.up hb)
    have X_6 := qh (hoc.rd (by omega) Hs.out)
    clear hb yBc0 yBc1 B_5 C_5 Bc_5 K_5 T_5
    clear hoc
    have al := alloc_up v6 (.cells #[.slice A6 m1 c6, .slice A7 m2 c7] 26)
    have B_7 := qh (below_to B_6.out al)
    have C_7 := qh (C_6.out.up al)
    have Bc_7 := qh (Bc_6.out.below al Bc_6.out.lt)
    have K_7 := qh (K_6.out.up al)
    have T_7 := qh (T_6.out.up al)
    have X_7 := qh (X_6.out.up al)
    have hq := Blk.new v6 26 #[.slice A6 m1 c6, .slice A7 m2 c7]
    have Bx_7 := qh hq
    clear al hq B_6 C_6 Bc_6 K_6 T_6 X_6
    have yBc0 := Bc_7.out.cell 0
    have yBc1 := Bc_7.out.cell 1
    have yBx0 := Bx_7.out.cell 0
    have yBx1 := Bx_7.out.cell 1
    simp only [gT, gZ, gS] at yBc0 yBc1 yBx0 yBx1
    go_wp2_with fail
    generalize v6.alloc (.cells #[.slice A6 m1 c6, .slice A7 m2 c7] 26) = z7 at B_7 C_7 Bc_7 K_7 T_7 X_7 Bx_7 yBc0 yBc1 yBx0 yBx1 ⊢
    refine (sameCluster_any A6 A7 A1 A2 m1 c6 m2 c7 c1 c2 _ _ z7 X_7.out C_7.out).mono ?_; rintro e v8 ⟨rfl, hb⟩
    have B_8 := qh (below_to B_7.out hb)
    have C_8 := qh (C_7.out.up hb)
    have Bc_8 := qh (Bc_7.out.below hb Bc_7.out.lt)
    have K_8 := qh (K_7.out.up hb)
    have T_8 := qh (T_7.out.up hb)
    have X_8 := qh (X_7.out.up hb)
    have Bx_8 := qh (Bx_7.out.below hb Bx_7.out.lt)
    clear hb yBc0 yBc1 yBx0 yBx1 B_7 C_7 Bc_7 K_7 T_7 X_7 Bx_7
    have yBc0 := Bc_8.out.cell 0
    have yBc1 := Bc_8.out.cell 1
    have yBx0 := Bx_8.out.cell 0
    have yBx1 := Bx_8.out.cell 1
    simp only [gT, gZ, gS] at yBc0 yBc1 yBx0 yBx1
    go_wp2_with fail
    go_ret
    exact ⟨rfl, B_8.out⟩
end Go.Proofs.YtlegpecjoaklnaaGreatDoor
