/- Walk: the law FnPlayOne. (Printed by gen_rqlaws.py.) -/
import Derived.Test.YtlegpecjoaklnaaGreatDoorDrawRqs
import Derived.Test.YtlegpecjoaklnaaGreatDoorJ14
import Derived.Test.YtlegpecjoaklnaaGreatDoorRqKit
import Derived.Deep.CutBlock
import Derived.Deep.DeepCutAuto
import Derived.Test.YtlegpecjoaklnaaGreatDoorJ3
namespace Go.Proofs.YtlegpecjoaklnaaGreatDoor
set_option linter.unusedVariables false
open Go Go.RowKit
attribute [local go_sem ↓] Go.wp_at_zero Go.wp_at_succ

set_option maxRecDepth 100000 in
set_option maxHeartbeats 6400000 in
theorem playOne_walk (A : Option Addr) (n c : Nat) (w : World) (h : RdU w w.heap.size A n) (hc : n ≤ c) (hcm : c ≤ 9223372036854775807) :
    Calls Tryz.prog 10 #[.slice A n c] w fun e w' => e = .returned (.bool true) ∧ Below w.heap.size w w' := by
  by_cases kn : 1048576 < n
  · go_enter Tryz.func10, Tryz.ntmps10
    go_wp2
    go_ret
    exact ⟨rfl, Below.refl _ _⟩
  go_enter Tryz.func10, Tryz.ntmps10
  go_wp2_with fail
  refine (drawRequestsPlay_any A n c w h hc hcm).mono ?_; rintro e v1 ⟨A1, m1, c1, A2, m2, c2, room, us, b3, n3, c3, rs, rfl, hcr, hs, hm1, hc1, hc2, hq, hn3, hc3, hb⟩
  have B_1 := qh (hb)
  have C_1 := qh (hcr)
  have Q_1 := qh (hq)
  clear hb
  have hlr := hq.len
  clear hcr hq h
  have Hs := qh hs
  have Hlr := qh hlr
  have Hq := qh (playP_sh (room := room) (us := us) rs)
  clear hs hlr
  have al := alloc_up v1 (.cells #[.slice A1 m1 c1, .slice A2 m2 c2] 26)
  have B_2 := qh (below_to B_1.out al)
  have C_2 := qh (C_1.out.up al)
  have Q_2 := qh (Q_1.out.up al)
  have hq := Blk.new v1 26 #[.slice A1 m1 c1, .slice A2 m2 c2]
  have Bc_2 := qh hq
  clear al hq B_1 C_1 Q_1
  obtain ⟨po, pu, pc, hp⟩ : ∃ po pu pc, playP room us rs = (po, pu, pc) := ⟨_, _, _, rfl⟩
  have Hp := qh hp
  clear hp
  rw [Hp.out] at Hq
  dsimp only at Hq
  have yBc0 := Bc_2.out.cell 0
  have yBc1 := Bc_2.out.cell 1
  simp only [gT, gZ, gS] at yBc0 yBc1
  go_wp2_with fail
  generalize v1.alloc (.cells #[.slice A1 m1 c1, .slice A2 m2 c2] 26) = z2 at B_2 C_2 Q_2 Bc_2 yBc0 yBc1 ⊢
  refine (requestsPlayI_any A1 A2 (some ⟨b3, 0, none⟩) m1 c1 m2 c2 n3 c3 room us rs z2 C_2.out Hs.out.v Q_2.out).mono ?_; rintro e v3 ⟨A4, m4, c4, A5, m5, c5, Ak, mk, ck, he, hoc, hown, hb⟩
  simp only [Hp.out] at he hoc hown
  subst he
  have hl := hoc.len
  have hl2 := hoc.lenU
  have hlk := own_len hown
  have B_3 := qh (below_to B_2.out hb)
  have C_3 := qh (C_2.out.up hb)
  have Q_3 := qh (Q_2.out.up hb)
  have Bc_3 := qh (Bc_2.out.below hb Bc_2.out.lt)
  have D_3 := qh (hoc.rd (by have := Hq.out.2; omega) Hq.out.1)
  have K_3 := qh (own_rdI hown (own_le hown))
  clear hb yBc0 yBc1 B_2 C_2 Q_2 Bc_2
  clear hoc hown
  have al := alloc_up v3 (.cells #[.slice A4 m4 c4, .slice A5 m5 c5] 26)
  have B_4 := qh (below_to B_3.out al)
  have C_4 := qh (C_3.out.up al)
  have Q_4 := qh (Q_3.out.up al)
  have Bc_4 := qh (Bc_3.out.below al Bc_3.out.lt)
  have D_4 := qh (D_3.out.up al)
  have K_4 := qh (K_3.out.up al)
  have hq := Blk.new v3 26 #[.slice A4 m4 c4, .slice A5 m5 c5]
  have Bo_4 := qh hq
  clear al hq B_3 C_3 Q_3 Bc_3 D_3 K_3
  have yBc0 := Bc_4.out.cell 0
  have yBc1 := Bc_4.out.cell 1
  have yBo0 := Bo_4.out.cell 0
  have yBo1 := Bo_4.out.cell 1
  simp only [gT, gZ, gS] at yBc0 yBc1 yBo0 yBo1
  go_wp2_with fail
  generalize v3.alloc (.cells #[.slice A4 m4 c4, .slice A5 m5 c5] 26) = z4 at B_4 C_4 Q_4 Bc_4 D_4 K_4 Bo_4 yBc0 yBc1 yBo0 yBo1 ⊢
  refine (requestsPlayS_any A1 A2 (some ⟨b3, 0, none⟩) m1 c1 m2 c2 n3 c3 room us rs z4 C_4.out Hs.out.v (by omega) Q_4.out).mono ?_; rintro e v5 ⟨A6, m6, c6, A7, m7, c7, At, mt, ct, he, hrc, hri, hb⟩
  simp only [Hp.out] at he hrc hri
  subst he
  obtain rfl : m6 = m4 := by have := hrc.a.len; omega
  obtain rfl : m7 = m5 := by have := hrc.b.len; omega
  obtain rfl : mk = mt := by have := hri.len; omega
  have B_5 := qh (below_to B_4.out hb)
  have C_5 := qh (C_4.out.up hb)
  have Q_5 := qh (Q_4.out.up hb)
  have Bc_5 := qh (Bc_4.out.below hb Bc_4.out.lt)
  have D_5 := qh (D_4.out.up hb)
  have K_5 := qh (K_4.out.up hb)
  have Bo_5 := qh (Bo_4.out.below hb Bo_4.out.lt)
  have E_5 := qh (hrc)
  have T_5 := qh (hri)
  clear hb yBc0 yBc1 yBo0 yBo1 B_4 C_4 Q_4 Bc_4 D_4 K_4 Bo_4
  have Hlk := qh hlk
  clear hrc hri hl hl2 hlk
  have al := alloc_up v5 (.cells #[.slice A6 m6 c6, .slice A7 m7 c7] 26)
  have B_6 := qh (below_to B_5.out al)
  have C_6 := qh (C_5.out.up al)
  have Q_6 := qh (Q_5.out.up al)
  have Bc_6 := qh (Bc_5.out.below al Bc_5.out.lt)
  have D_6 := qh (D_5.out.up al)
  have K_6 := qh (K_5.out.up al)
  have Bo_6 := qh (Bo_5.out.below al Bo_5.out.lt)
  have E_6 := qh (E_5.out.up al)
  have T_6 := qh (T_5.out.up al)
  have hq := Blk.new v5 26 #[.slice A6 m6 c6, .slice A7 m7 c7]
  have Bw_6 := qh hq
  clear al hq B_5 C_5 Q_5 Bc_5 D_5 K_5 Bo_5 E_5 T_5
  have yBc0 := Bc_6.out.cell 0
  have yBc1 := Bc_6.out.cell 1
  have yBo0 := Bo_6.out.cell 0
  have yBo1 := Bo_6.out.cell 1
  have yBw0 := Bw_6.out.cell 0
  have yBw1 := Bw_6.out.cell 1
  simp only [gT, gZ, gS] at yBc0 yBc1 yBo0 yBo1 yBw0 yBw1
  go_wp2_with fail
  generalize v5.alloc (.cells #[.slice A6 m6 c6, .slice A7 m7 c7] 26) = z6 at B_6 C_6 Q_6 Bc_6 D_6 K_6 Bo_6 E_6 T_6 Bw_6 yBc0 yBc1 yBo0 yBo1 yBw0 yBw1 ⊢
  refine (sameInts_any Ak At mk ck ct _ _ _ z6 K_6.out T_6.out).mono ?_; rintro e v7 ⟨rfl, mq, hw⟩
  have hb := drew_below z6 mq
  rw [hw] at hb
  clear hw
  have B_7 := qh (below_to B_6.out hb)
  have C_7 := qh (C_6.out.up hb)
  have Q_7 := qh (Q_6.out.up hb)
  have Bc_7 := qh (Bc_6.out.below hb Bc_6.out.lt)
  have D_7 := qh (D_6.out.up hb)
  have K_7 := qh (K_6.out.up hb)
  have Bo_7 := qh (Bo_6.out.below hb Bo_6.out.lt)
  have E_7 := qh (E_6.out.up hb)
  have T_7 := qh (T_6.out.up hb)
  have Bw_7 := qh (Bw_6.out.below hb Bw_6.out.lt)
  clear hb yBc0 yBc1 yBo0 yBo1 yBw0 yBw1 B_6 C_6 Q_6 Bc_6 D_6 K_6 Bo_6 E_6 T_6 Bw_6
  have yBc0 := Bc_7.out.cell 0
  have yBc1 := Bc_7.out.cell 1
  have yBo0 := Bo_7.out.cell 0
  have yBo1 := Bo_7.out.cell 1
  have yBw0 := Bw_7.out.cell 0
  have yBw1 := Bw_7.out.cell 1
  simp only [gT, gZ, gS] at yBc0 yBc1 yBo0 yBo1 yBw0 yBw1
  go_wp2_with fail
  refine (sameCluster_any A4 A5 A6 A7 m6 c4 m7 c5 c6 c7 _ _ v7 D_7.out E_7.out).mono ?_; rintro e v8 ⟨rfl, hb⟩
  have B_8 := qh (below_to B_7.out hb)
  have C_8 := qh (C_7.out.up hb)
  have Q_8 := qh (Q_7.out.up hb)
  have Bc_8 := qh (Bc_7.out.below hb Bc_7.out.lt)
  have D_8 := qh (D_7.out.up hb)
  have K_8 := qh (K_7.out.up hb)
  have Bo_8 := qh (Bo_7.out.below hb Bo_7.out.lt)
  have E_8 := qh (E_7.out.up hb)
  have T_8 := qh (T_7.out.up hb)
  have Bw_8 := qh (Bw_7.out.below hb Bw_7.out.lt)
  clear hb yBc0 yBc1 yBo0 yBo1 yBw0 yBw1 B_7 C_7 Q_7 Bc_7 D_7 K_7 Bo_7 E_7 T_7 Bw_7
  have yBc0 := Bc_8.out.cell 0
  have yBc1 := Bc_8.out.cell 1
  have yBo0 := Bo_8.out.cell 0
  have yBo1 := Bo_8.out.cell 1
  have yBw0 := Bw_8.out.cell 0
  have yBw1 := Bw_8.out.cell 1
  simp only [gT, gZ, gS] at yBc0 yBc1 yBo0 yBo1 yBw0 yBw1
  go_wp2_with fail
  refine (clusterValidS_any A1 A2 m1 c1 m2 c2 room us v8 C_8.out Hs.out).mono ?_; rintro e v9 ⟨rfl, hb⟩
  have B_9 := qh (below_to B_8.out hb)
  have C_9 := qh (C_8.out.up hb)
  have Q_9 := qh (Q_8.out.up hb)
  have Bc_9 := qh (Bc_8.out.below hb Bc_8.out.lt)
  have D_9 := qh (D_8.out.up hb)
  have K_9 := qh (K_8.out.up hb)
  have Bo_9 := qh (Bo_8.out.below hb Bo_8.out.lt)
  have E_9 := qh (E_8.out.up hb)
  have T_9 := qh (T_8.out.up hb)
  have Bw_9 := qh (Bw_8.out.below hb Bw_8.out.lt)
  clear hb yBc0 yBc1 yBo0 yBo1 yBw0 yBw1 B_8 C_8 Q_8 Bc_8 D_8 K_8 Bo_8 E_8 T_8 Bw_8
  cases hok : clOk room us with
  | false =>
    have yBc0 := Bc_9.out.cell 0
    have yBc1 := Bc_9.out.cell 1
    have yBo0 := Bo_9.out.cell 0
    have yBo1 := Bo_9.out.cell 1
    have yBw0 := Bw_9.out.cell 0
    have yBw1 := Bw_9.out.cell 1
    simp only [gT, gZ, gS] at yBc0 yBc1 yBo0 yBo1 yBw0 yBw1
    go_wp2_with fail
    refine (sameInts_any Ak At mk ck ct _ _ _ v9 K_9.out T_9.out).mono ?_; rintro e v10 ⟨rfl, mq, hw⟩
    have hb := drew_below v9 mq
    rw [hw] at hb
    clear hw
    have B_10 := qh (below_to B_9.out hb)
    have C_10 := qh (C_9.out.up hb)
    have Q_10 := qh (Q_9.out.up hb)
    have Bc_10 := qh (Bc_9.out.below hb Bc_9.out.lt)
    have D_10 := qh (D_9.out.up hb)
    have K_10 := qh (K_9.out.up hb)
    have Bo_10 := qh (Bo_9.out.below hb Bo_9.out.lt)
    have E_10 := qh (E_9.out.up hb)
    have T_10 := qh (T_9.out.up hb)
    have Bw_10 := qh (Bw_9.out.below hb Bw_9.out.lt)
    clear hb yBc0 yBc1 yBo0 yBo1 yBw0 yBw1 B_9 C_9 Q_9 Bc_9 D_9 K_9 Bo_9 E_9 T_9 Bw_9
    have yBc0 := Bc_10.out.cell 0
    have yBc1 := Bc_10.out.cell 1
    have yBo0 := Bo_10.out.cell 0
    have yBo1 := Bo_10.out.cell 1
    have yBw0 := Bw_10.out.cell 0
    have yBw1 := Bw_10.out.cell 1
    simp only [gT, gZ, gS] at yBc0 yBc1 yBo0 yBo1 yBw0 yBw1
    go_wp2_with fail
    refine (sameCluster_any A4 A5 A6 A7 m6 c4 m7 c5 c6 c7 _ _ v10 D_10.out E_10.out).mono ?_; rintro e v11 ⟨rfl, hb⟩
    have B_11 := qh (below_to B_10.out hb)
    have C_11 := qh (C_10.out.up hb)
    have Q_11 := qh (Q_10.out.up hb)
    have Bc_11 := qh (Bc_10.out.below hb Bc_10.out.lt)
    have D_11 := qh (D_10.out.up hb)
    have K_11 := qh (K_10.out.up hb)
    have Bo_11 := qh (Bo_10.out.below hb Bo_10.out.lt)
    have E_11 := qh (E_10.out.up hb)
    have T_11 := qh (T_10.out.up hb)
    have Bw_11 := qh (Bw_10.out.below hb Bw_10.out.lt)
    clear hb yBc0 yBc1 yBo0 yBo1 yBw0 yBw1 B_10 C_10 Q_10 Bc_10 D_10 K_10 Bo_10 E_10 T_10 Bw_10
    have yBc0 := Bc_11.out.cell 0
    have yBc1 := Bc_11.out.cell 1
    have yBo0 := Bo_11.out.cell 0
    have yBo1 := Bo_11.out.cell 1
    have yBw0 := Bw_11.out.cell 0
    have yBw1 := Bw_11.out.cell 1
    simp only [gT, gZ, gS] at yBc0 yBc1 yBo0 yBo1 yBw0 yBw1
    go_wp2_with fail
    go_ret
    exact ⟨rfl, B_11.out⟩
  | true =>
    have Hok := qh hok
    clear hok
    by_cases h30 : 30 < n3
    · have q30 : (30 : Int) < (n3 : Int) := by omega
      have yBc0 := Bc_9.out.cell 0
      have yBc1 := Bc_9.out.cell 1
      have yBo0 := Bo_9.out.cell 0
      have yBo1 := Bo_9.out.cell 1
      have yBw0 := Bw_9.out.cell 0
      have yBw1 := Bw_9.out.cell 1
      simp only [gT, gZ, gS] at yBc0 yBc1 yBo0 yBo1 yBw0 yBw1
      go_wp2_with fail
      refine (sameInts_any Ak At mk ck ct _ _ _ v9 K_9.out T_9.out).mono ?_; rintro e v10 ⟨rfl, mq, hw⟩
      have hb := drew_below v9 mq
      rw [hw] at hb
      clear hw
      have B_10 := qh (below_to B_9.out hb)
      have C_10 := qh (C_9.out.up hb)
      have Q_10 := qh (Q_9.out.up hb)
      have Bc_10 := qh (Bc_9.out.below hb Bc_9.out.lt)
      have D_10 := qh (D_9.out.up hb)
      have K_10 := qh (K_9.out.up hb)
      have Bo_10 := qh (Bo_9.out.below hb Bo_9.out.lt)
      have E_10 := qh (E_9.out.up hb)
      have T_10 := qh (T_9.out.up hb)
      have Bw_10 := qh (Bw_9.out.below hb Bw_9.out.lt)
      clear hb yBc0 yBc1 yBo0 yBo1 yBw0 yBw1 B_9 C_9 Q_9 Bc_9 D_9 K_9 Bo_9 E_9 T_9 Bw_9
      have yBc0 := Bc_10.out.cell 0
      have yBc1 := Bc_10.out.cell 1
      have yBo0 := Bo_10.out.cell 0
      have yBo1 := Bo_10.out.cell 1
      have yBw0 := Bw_10.out.cell 0
      have yBw1 := Bw_10.out.cell 1
      simp only [gT, gZ, gS] at yBc0 yBc1 yBo0 yBo1 yBw0 yBw1
      go_wp2_with fail
      refine (sameCluster_any A4 A5 A6 A7 m6 c4 m7 c5 c6 c7 _ _ v10 D_10.out E_10.out).mono ?_; rintro e v11 ⟨rfl, hb⟩
      have B_11 := qh (below_to B_10.out hb)
      have C_11 := qh (C_10.out.up hb)
      have Q_11 := qh (Q_10.out.up hb)
      have Bc_11 := qh (Bc_10.out.below hb Bc_10.out.lt)
      have D_11 := qh (D_10.out.up hb)
      have K_11 := qh (K_10.out.up hb)
      have Bo_11 := qh (Bo_10.out.below hb Bo_10.out.lt)
      have E_11 := qh (E_10.out.up hb)
      have T_11 := qh (T_10.out.up hb)
      have Bw_11 := qh (Bw_10.out.below hb Bw_10.out.lt)
      clear hb yBc0 yBc1 yBo0 yBo1 yBw0 yBw1 B_10 C_10 Q_10 Bc_10 D_10 K_10 Bo_10 E_10 T_10 Bw_10
      have yBc0 := Bc_11.out.cell 0
      have yBc1 := Bc_11.out.cell 1
      have yBo0 := Bo_11.out.cell 0
      have yBo1 := Bo_11.out.cell 1
      have yBw0 := Bw_11.out.cell 0
      have yBw1 := Bw_11.out.cell 1
      simp only [gT, gZ, gS] at yBc0 yBc1 yBo0 yBo1 yBw0 yBw1
      go_wp2_with fail
      go_ret
      exact ⟨rfl, B_11.out⟩
    · have q30 : ¬ (30 : Int) < (n3 : Int) := by omega
      have e := (play_yes Hok.out (by have := Hlr.out; omega)).symm.trans Hp.out
      injection e with e1 e2
      subst e1
      have HU := qh e2
      clear e2
      have hk5 := play_ok (room := room) rs us Hok.out
      rw [HU.out] at hk5
      dsimp only at hk5
      have lk : mk = n3 := by have := hk5.2; have := Hlk.out; have := Hlr.out; omega
      subst lk
      have Hk5 := qh hk5
      clear hk5
      by_cases hz : mk = 0
      · have q0 : ((mk : Int) == 0) = true := by rw [hz]; rfl
        clear hz
        have yBc0 := Bc_9.out.cell 0
        have yBc1 := Bc_9.out.cell 1
        have yBo0 := Bo_9.out.cell 0
        have yBo1 := Bo_9.out.cell 1
        have yBw0 := Bw_9.out.cell 0
        have yBw1 := Bw_9.out.cell 1
        simp only [gT, gZ, gS] at yBc0 yBc1 yBo0 yBo1 yBw0 yBw1
        go_wp2_with fail
        refine (sameInts_any Ak At mk ck ct _ _ _ v9 K_9.out T_9.out).mono ?_; rintro e v10 ⟨rfl, mq, hw⟩
        have hb := drew_below v9 mq
        rw [hw] at hb
        clear hw
        have B_10 := qh (below_to B_9.out hb)
        have C_10 := qh (C_9.out.up hb)
        have Q_10 := qh (Q_9.out.up hb)
        have Bc_10 := qh (Bc_9.out.below hb Bc_9.out.lt)
        have D_10 := qh (D_9.out.up hb)
        have K_10 := qh (K_9.out.up hb)
        have Bo_10 := qh (Bo_9.out.below hb Bo_9.out.lt)
        have E_10 := qh (E_9.out.up hb)
        have T_10 := qh (T_9.out.up hb)
        have Bw_10 := qh (Bw_9.out.below hb Bw_9.out.lt)
        clear hb yBc0 yBc1 yBo0 yBo1 yBw0 yBw1 B_9 C_9 Q_9 Bc_9 D_9 K_9 Bo_9 E_9 T_9 Bw_9
        have yBc0 := Bc_10.out.cell 0
        have yBc1 := Bc_10.out.cell 1
        have yBo0 := Bo_10.out.cell 0
        have yBo1 := Bo_10.out.cell 1
        have yBw0 := Bw_10.out.cell 0
        have yBw1 := Bw_10.out.cell 1
        simp only [gT, gZ, gS] at yBc0 yBc1 yBo0 yBo1 yBw0 yBw1
        go_wp2_with fail
        refine (sameCluster_any A4 A5 A6 A7 m6 c4 m7 c5 c6 c7 _ _ v10 D_10.out E_10.out).mono ?_; rintro e v11 ⟨rfl, hb⟩
        have B_11 := qh (below_to B_10.out hb)
        have C_11 := qh (C_10.out.up hb)
        have Q_11 := qh (Q_10.out.up hb)
        have Bc_11 := qh (Bc_10.out.below hb Bc_10.out.lt)
        have D_11 := qh (D_10.out.up hb)
        have K_11 := qh (K_10.out.up hb)
        have Bo_11 := qh (Bo_10.out.below hb Bo_10.out.lt)
        have E_11 := qh (E_10.out.up hb)
        have T_11 := qh (T_10.out.up hb)
        have Bw_11 := qh (Bw_10.out.below hb Bw_10.out.lt)
        clear hb yBc0 yBc1 yBo0 yBo1 yBw0 yBw1 B_10 C_10 Q_10 Bc_10 D_10 K_10 Bo_10 E_10 T_10 Bw_10
        have yBc0 := Bc_11.out.cell 0
        have yBc1 := Bc_11.out.cell 1
        have yBo0 := Bo_11.out.cell 0
        have yBo1 := Bo_11.out.cell 1
        have yBw0 := Bw_11.out.cell 0
        have yBw1 := Bw_11.out.cell 1
        simp only [gT, gZ, gS] at yBc0 yBc1 yBo0 yBo1 yBw0 yBw1
        go_wp2_with fail
        go_ret
        exact ⟨rfl, B_11.out⟩
      · have q0 : ((mk : Int) == 0) = false := by simpa using (show ¬ (mk : Int) = 0 by omega)
        obtain ⟨bq, oq, Ar, mr, cr, eq, lq, hy0, hy1, hy2, hy3, hy4, hmc, hrd⟩ := Q_9.out.at_ (k := 0) (by omega)
        injection eq with eq
        injection eq with eq eq2
        subst eq eq2
        simp only [Nat.zero_mul, Nat.add_zero, Nat.zero_add] at hy0 hy1 hy2 hy3 hy4
        have ht1 : rs.take 1 = [rs[0]?.getD rq0] := by
          have := Hlr.out
          cases rs with
          | nil => simp at this; omega
          | cons a l => rfl
        have HQ1 := qh (show RdQ v9 v9.heap.size (some ⟨b3, 0, none⟩) 1 (rs.take 1) from by have := RdQ.part (i := 0) (m := 1) Q_9.out (by omega); simpa using this)
        rw [ht1] at HQ1
        generalize rs[0]?.getD rq0 = r at *
        obtain ⟨kd, id, xs, gr, nm⟩ := r
        dsimp only at hy0 hy1 hy3 hy4 hrd
        have Hrd := qh hrd
        clear ht1 hrd
        obtain ⟨ra, ua, na, hra⟩ : ∃ ra ua na, reqP room us ⟨kd, id, xs, gr, nm⟩ = (ra, ua, na) := ⟨_, _, _, rfl⟩
        have hf := req_facts (r := ⟨kd, id, xs, gr, nm⟩) Hok.out
        rw [hra] at hf
        obtain ⟨f1, f2, _, _⟩ := hf
        dsimp only at f1 f2
        obtain rfl : room = ra := f1.symm
        have Hra := qh hra
        have HP1 := qh (play_yes (rs := [⟨kd, id, xs, gr, nm⟩]) Hok.out (by simp))
        have hpu : playU room [⟨kd, id, xs, gr, nm⟩] us = (ua, [na]) := by simp only [playU, hra]
        have Hpu := qh hpu
        have Hsh := qh (show ShU ua ∧ room.length ≤ 3 from ⟨clOk_sh f2, Nat.le_of_eq (clOk_facts Hok.out).1⟩)
        clear hpu hra f2
        have k2 : (1 : Int) ≤ (c3 : Int) := by omega
        have k3 : (1 : Int) ≤ (mk : Int) := by omega
        have k5 : (0 : Int) < (mk : Int) := by omega
        have k6 : 0 < mk := by omega
        have k4 : (mk : Int) ≤ (c3 : Int) := by omega
        go_upto_region 8 with fail
        go_cut [9, 10] (fun s9 s10 wx => ∃ (gx : Nat) (A8 : Option Addr) (m8 c8 : Nat) (A9 : Option Addr) (m9 c9 : Nat) (Aa : Option Addr) (ma ca : Nat), s9 = .pointer (some ⟨gx, 0, none⟩) ∧ s10 = .slice Aa ma ca ∧ Blk wx gx 26 #[.slice A8 m8 c8, .slice A9 m9 c9] ∧ RdC wx A8 A9 m8 m9 room ua ∧ RdI wx wx.heap.size Aa ma [na] ∧ ma ≤ ca ∧ Below v9.heap.size v9 wx)
        case first =>
          have U0 := qh ((Below.refl v9.heap.size v9).drew)
          have K0 : v9.drew.cell? ⟨v1.heap.size, 0, none⟩ = some (.slice A1 m1 c1) ∧ v9.drew.cell? ⟨v1.heap.size, 1, none⟩ = some (.slice A2 m2 c2) := ⟨(Bc_9.out.below U0.out Bc_9.out.lt).cell 0, (Bc_9.out.below U0.out Bc_9.out.lt).cell 1⟩
          refine wp_region_mix ((.take 0 (.take 1 (.take 2 (.fork 3 (.take 4 (.take 5 (.take 6 (.bar 7 (.bar 8 (.take 9 .nil)))))) 7 (.bar 3 (.take 4 (.take 5 (.take 6 (.bar 8 (.take 9 .nil))))))))))) (fun w' => w'.cell? ⟨v1.heap.size, 0, none⟩ = some (.slice A1 m1 c1) ∧ w'.cell? ⟨v1.heap.size, 1, none⟩ = some (.slice A2 m2 c2)) (by kernel_rfl) (by kernel_rfl) K0 (fun _ => ?_)
          clear K0
          generalize v9.drew = u0 at U0 ⊢
          repeat ((first | refine wpMix_skip (by rfl) (by rfl) ?_ | (refine wpMix_take (v := ?_) (by rfl) (by rfl) (fun wS hSt => ?_) ?_; rotate_left; (focus ((try dsimp only at hSt); (go_simp <;> with_reducible rfl); done)))); (try simp only [Act.put, pS, pZ, pC]))
          refine wpMix_fork (by rfl) (by rfl) (fun K hK => ?_) (fun K hK => ?_)
          · skip
            go_simp
            refine (requestsPlayI_any A1 A2 (some ⟨b3, 0, none⟩) m1 c1 m2 c2 1 c3 room us [⟨kd, id, xs, gr, nm⟩] u0 (C_9.out.up U0.out) Hs.out.v (HQ1.out.up U0.out)).mono ?_; rintro e u1 ⟨A8, m8, c8, A9, m9, c9, Aa, ma, ca, rfl, hoc, hown, hb⟩
            rw [HP1.out, Hpu.out] at hoc hown
            dsimp only at hoc hown
            have HO := qh hoc
            have HK := qh hown
            clear hoc hown
            have U1 := qh (U0.out.trans (hb.mono U0.out.size))
            ((try dsimp only); refine nxK hK _ _ (⟨(Bc_9.out.below U1.out Bc_9.out.lt).cell 0, (Bc_9.out.below U1.out Bc_9.out.lt).cell 1⟩) ?_; clear hK K; (try simp only [Act.put, pS, pZ, pC]))
            clear hb
            repeat ((first | refine wpMix_skip (by rfl) (by rfl) ?_ | (refine wpMix_take (v := ?_) (by rfl) (by rfl) (fun wS hSt => ?_) ?_; rotate_left; (focus ((try dsimp only at hSt); (go_simp <;> with_reducible rfl); done)))); (try simp only [Act.put, pS, pZ, pC]))
            refine wpMix_bar (by rfl) (fun K hK => ?_)
            go_simp
            have hb := alloc_up u1 (.cells #[.slice none 0 0, .slice none 0 0] 26)
            have U2 := qh (U1.out.trans (hb.mono U1.out.size))
            have Z2 := qh (Blk.new u1 26 #[.slice none 0 0, .slice none 0 0])
            have hgz : v9.heap.size ≤ u1.heap.size := U1.out.size
            replace HO := qh (HO.out.keepTU (KeepTU.up hb))
            replace HK := qh (own_up' HK.out hb)
            ((try dsimp only); refine nxK hK _ _ (⟨(Bc_9.out.below U2.out Bc_9.out.lt).cell 0, (Bc_9.out.below U2.out Bc_9.out.lt).cell 1⟩) ?_; clear hK K; (try simp only [Act.put, pS, pZ, pC]))
            generalize u1.heap.size = gz at Z2 hgz ⊢
            generalize u1.alloc (.cells #[.slice none 0 0, .slice none 0 0] 26) = u2 at U2 HO Z2 HK ⊢
            clear hb
            refine wpMix_bar (by rfl) (fun K hK => ?_)
            have x0 := Z2.out.cell 0
            have x1 := Z2.out.cell 1
            simp only [gT, gZ, gS] at x0 x1
            have x2 := Z2.out.frozen 0
            have x3 := Z2.out.frozen 1
            go_simp
            have KT := (KeepTU.set_ Z2.out (by decide) (by decide) (by decide) 0 (.slice A8 m8 c8)).trans (KeepTU.set_ (Z2.out.set_ 0 (.slice A8 m8 c8)) (by decide) (by decide) (by decide) 1 (.slice A9 m9 c9))
            have U3 := qh ((U2.out.setCell (p := ⟨gz, 0, none⟩) hgz (.slice A8 m8 c8)).setCell (p := ⟨gz, 1, none⟩) hgz (.slice A9 m9 c9))
            have RC := qh ((HO.out.keepTU KT).rd (by have := HO.out.len; have := Hsh.out.2; omega) Hsh.out.1)
            have Z3 := qh (show Blk (World.setCell (World.setCell u2 ⟨gz, 0, none⟩ (.slice A8 m8 c8)) ⟨gz, 1, none⟩ (.slice A9 m9 c9)) gz 26 #[.slice A8 m8 c8, .slice A9 m9 c9] from (Z2.out.set_ 0 (.slice A8 m8 c8)).set_ 1 (.slice A9 m9 c9))
            have K2 := qh (own_keepTI HK.out (.inl rfl) KT.ti)
            ((try dsimp only); refine nxK hK _ _ (⟨(Bc_9.out.below U3.out Bc_9.out.lt).cell 0, (Bc_9.out.below U3.out Bc_9.out.lt).cell 1⟩) ?_; clear hK K; (try simp only [Act.put, pS, pZ, pC]))
            clear x0 x1 x2 x3 KT
            generalize (World.setCell (World.setCell u2 ⟨gz, 0, none⟩ (.slice A8 m8 c8)) ⟨gz, 1, none⟩ (.slice A9 m9 c9)) = u3 at U3 RC Z3 K2 ⊢
            repeat ((first | refine wpMix_skip (by rfl) (by rfl) ?_ | (refine wpMix_take (v := ?_) (by rfl) (by rfl) (fun wS hSt => ?_) ?_; rotate_left; (focus ((try dsimp only at hSt); (go_simp <;> with_reducible rfl); done)))); (try simp only [Act.put, pS, pZ, pC]))
            refine wpMix_nil ?_
            go_wp2_with fail
            go_meet
            case rel => exact ⟨gz, A8, m8, c8, A9, m9, c9, Aa, ma, ca, rfl, rfl, Z3.out, RC.out, own_rdI K2.out (own_le K2.out), own_cap' K2.out, U3.out⟩
          · skip
            go_simp
            have hb := alloc_up u0 (.cells #[.slice none 0 0, .slice none 0 0] 26)
            have U1 := qh (U0.out.trans (hb.mono U0.out.size))
            have Z1 := qh (Blk.new u0 26 #[.slice none 0 0, .slice none 0 0])
            have hgz : v9.heap.size ≤ u0.heap.size := U0.out.size
            ((try dsimp only); refine nxK hK _ _ (⟨(Bc_9.out.below U1.out Bc_9.out.lt).cell 0, (Bc_9.out.below U1.out Bc_9.out.lt).cell 1⟩) ?_; clear hK K; (try simp only [Act.put, pS, pZ, pC]))
            generalize u0.heap.size = gz at Z1 hgz ⊢
            generalize u0.alloc (.cells #[.slice none 0 0, .slice none 0 0] 26) = u1 at U1 Z1 ⊢
            clear hb
            refine wpMix_bar (by rfl) (fun K hK => ?_)
            go_simp
            refine (requestsPlayI_any A1 A2 (some ⟨b3, 0, none⟩) m1 c1 m2 c2 1 c3 room us [⟨kd, id, xs, gr, nm⟩] u1 (C_9.out.up U1.out) Hs.out.v (HQ1.out.up U1.out)).mono ?_; rintro e u2 ⟨A8, m8, c8, A9, m9, c9, Aa, ma, ca, rfl, hoc, hown, hb⟩
            rw [HP1.out, Hpu.out] at hoc hown
            dsimp only at hoc hown
            have HO := qh hoc
            have HK := qh hown
            clear hoc hown
            have U2 := qh (U1.out.trans (hb.mono U1.out.size))
            have Z2 := qh (Z1.out.below hb Z1.out.lt)
            ((try dsimp only); refine nxK hK _ _ (⟨(Bc_9.out.below U2.out Bc_9.out.lt).cell 0, (Bc_9.out.below U2.out Bc_9.out.lt).cell 1⟩) ?_; clear hK K; (try simp only [Act.put, pS, pZ, pC]))
            clear hb
            repeat ((first | refine wpMix_skip (by rfl) (by rfl) ?_ | (refine wpMix_take (v := ?_) (by rfl) (by rfl) (fun wS hSt => ?_) ?_; rotate_left; (focus ((try dsimp only at hSt); (go_simp <;> with_reducible rfl); done)))); (try simp only [Act.put, pS, pZ, pC]))
            refine wpMix_bar (by rfl) (fun K hK => ?_)
            have x0 := Z2.out.cell 0
            have x1 := Z2.out.cell 1
            simp only [gT, gZ, gS] at x0 x1
            have x2 := Z2.out.frozen 0
            have x3 := Z2.out.frozen 1
            go_simp
            have KT := (KeepTU.set_ Z2.out (by decide) (by decide) (by decide) 0 (.slice A8 m8 c8)).trans (KeepTU.set_ (Z2.out.set_ 0 (.slice A8 m8 c8)) (by decide) (by decide) (by decide) 1 (.slice A9 m9 c9))
            have U3 := qh ((U2.out.setCell (p := ⟨gz, 0, none⟩) hgz (.slice A8 m8 c8)).setCell (p := ⟨gz, 1, none⟩) hgz (.slice A9 m9 c9))
            have RC := qh ((HO.out.keepTU KT).rd (by have := HO.out.len; have := Hsh.out.2; omega) Hsh.out.1)
            have Z3 := qh (show Blk (World.setCell (World.setCell u2 ⟨gz, 0, none⟩ (.slice A8 m8 c8)) ⟨gz, 1, none⟩ (.slice A9 m9 c9)) gz 26 #[.slice A8 m8 c8, .slice A9 m9 c9] from (Z2.out.set_ 0 (.slice A8 m8 c8)).set_ 1 (.slice A9 m9 c9))
            have K2 := qh (own_keepTI HK.out (.inl rfl) KT.ti)
            ((try dsimp only); refine nxK hK _ _ (⟨(Bc_9.out.below U3.out Bc_9.out.lt).cell 0, (Bc_9.out.below U3.out Bc_9.out.lt).cell 1⟩) ?_; clear hK K; (try simp only [Act.put, pS, pZ, pC]))
            clear x0 x1 x2 x3 KT
            generalize (World.setCell (World.setCell u2 ⟨gz, 0, none⟩ (.slice A8 m8 c8)) ⟨gz, 1, none⟩ (.slice A9 m9 c9)) = u3 at U3 RC Z3 K2 ⊢
            repeat ((first | refine wpMix_skip (by rfl) (by rfl) ?_ | (refine wpMix_take (v := ?_) (by rfl) (by rfl) (fun wS hSt => ?_) ?_; rotate_left; (focus ((try dsimp only at hSt); (go_simp <;> with_reducible rfl); done)))); (try simp only [Act.put, pS, pZ, pC]))
            refine wpMix_nil ?_
            go_wp2_with fail
            go_meet
            case rel => exact ⟨gz, A8, m8, c8, A9, m9, c9, Aa, ma, ca, rfl, rfl, Z3.out, RC.out, own_rdI K2.out (own_le K2.out), own_cap' K2.out, U3.out⟩
        case rest =>
          obtain ⟨gx, A8, m8, c8, A9, m9, c9, Aa, ma, ca, rfl, rfl, hX, hC, hI, hac, hB⟩ := hcut
          obtain ⟨wb, rfl⟩ : ∃ wb : World, wb = wc := ⟨_, rfl⟩
          have Bc9 := qh (Bc_9.out.below hB Bc_9.out.lt)
          have B9 := qh (below_to B_9.out hB)
          have C9 := qh (C_9.out.up hB)
          have R9 := qh (Hrd.out.up hB)
          have X9 := qh hX
          have D9 := qh hC
          have I9 := qh hI
          have lq9 : b3 < wb.heap.size := by have := hB.size; omega
          replace hy0 := (hB.cell (p := ⟨b3, 0, none⟩) lq).trans hy0
          replace hy1 := (hB.cell (p := ⟨b3, 1, none⟩) lq).trans hy1
          replace hy2 := (hB.cell (p := ⟨b3, 2, none⟩) lq).trans hy2
          replace hy3 := (hB.cell (p := ⟨b3, 3, none⟩) lq).trans hy3
          replace hy4 := (hB.cell (p := ⟨b3, 4, none⟩) lq).trans hy4
          clear hX hC hI hB HQ1 HP1
          go_upto_region 9 with fail
          go_cut [11, 12] (fun s11 s12 wx => ∃ (gx : Nat) (A8 : Option Addr) (m8 c8 : Nat) (A9 : Option Addr) (m9 c9 : Nat), s11 = .pointer (some ⟨gx, 0, none⟩) ∧ s12 = .int .i64 na ∧ Blk wx gx 26 #[.slice A8 m8 c8, .slice A9 m9 c9] ∧ RdC wx A8 A9 m8 m9 room ua ∧ Below wb.heap.size wb wx)
          case first =>
            have U0 := qh ((Below.refl wb.heap.size wb).drew)
            have K0 : wb.drew.cell? ⟨v1.heap.size, 0, none⟩ = some (.slice A1 m1 c1) ∧ wb.drew.cell? ⟨v1.heap.size, 1, none⟩ = some (.slice A2 m2 c2) ∧ wb.drew.cell? ⟨b3, 0, none⟩ = some (.int .i64 kd) ∧ wb.drew.cell? ⟨b3, 1, none⟩ = some (.int .i64 id) ∧ wb.drew.cell? ⟨b3, 2, none⟩ = some (.slice Ar mr cr) ∧ wb.drew.cell? ⟨b3, 3, none⟩ = some (.bool gr) ∧ wb.drew.cell? ⟨b3, 4, none⟩ = some (.int .i64 nm) := ⟨(Bc9.out.below U0.out Bc9.out.lt).cell 0, (Bc9.out.below U0.out Bc9.out.lt).cell 1, ((U0.out).cell (p := ⟨b3, 0, none⟩) lq9).trans hy0, ((U0.out).cell (p := ⟨b3, 1, none⟩) lq9).trans hy1, ((U0.out).cell (p := ⟨b3, 2, none⟩) lq9).trans hy2, ((U0.out).cell (p := ⟨b3, 3, none⟩) lq9).trans hy3, ((U0.out).cell (p := ⟨b3, 4, none⟩) lq9).trans hy4⟩
            refine wp_region_mix ((.take 0 (.take 1 (.take 2 (.take 3 (.fork 4 (.take 5 (.take 6 (.take 7 (.bar 8 (.bar 9 (.take 10 .nil)))))) 8 (.bar 4 (.take 5 (.take 6 (.take 7 (.bar 9 (.take 10 .nil)))))))))))) (fun w' => w'.cell? ⟨v1.heap.size, 0, none⟩ = some (.slice A1 m1 c1) ∧ w'.cell? ⟨v1.heap.size, 1, none⟩ = some (.slice A2 m2 c2) ∧ w'.cell? ⟨b3, 0, none⟩ = some (.int .i64 kd) ∧ w'.cell? ⟨b3, 1, none⟩ = some (.int .i64 id) ∧ w'.cell? ⟨b3, 2, none⟩ = some (.slice Ar mr cr) ∧ w'.cell? ⟨b3, 3, none⟩ = some (.bool gr) ∧ w'.cell? ⟨b3, 4, none⟩ = some (.int .i64 nm)) (by kernel_rfl) (by kernel_rfl) K0 (fun _ => ?_)
            clear K0
            generalize wb.drew = u0 at U0 ⊢
            repeat ((first | refine wpMix_skip (by rfl) (by rfl) ?_ | (refine wpMix_take (v := ?_) (by rfl) (by rfl) (fun wS hSt => ?_) ?_; rotate_left; (focus ((try dsimp only at hSt); (go_simp <;> with_reducible rfl); done)))); (try simp only [Act.put, pS, pZ, pC]))
            refine wpMix_fork (by rfl) (by rfl) (fun K hK => ?_) (fun K hK => ?_)
            · skip
              go_simp
              refine (requestDoI_any A1 A2 Ar m1 c1 m2 c2 mr cr room us ⟨kd, id, xs, gr, nm⟩ u0 (C9.out.up U0.out) Hs.out.v (R9.out.up U0.out) hmc).mono ?_; rintro e u1 ⟨A8, m8, c8, A9, m9, c9, he, hoc, hb⟩
              simp only [Hra.out] at he hoc
              subst he
              have HO := qh hoc
              clear hoc
              have U1 := qh (U0.out.trans (hb.mono U0.out.size))
              ((try dsimp only); refine nxK hK _ _ (⟨(Bc9.out.below U1.out Bc9.out.lt).cell 0, (Bc9.out.below U1.out Bc9.out.lt).cell 1, ((U1.out).cell (p := ⟨b3, 0, none⟩) lq9).trans hy0, ((U1.out).cell (p := ⟨b3, 1, none⟩) lq9).trans hy1, ((U1.out).cell (p := ⟨b3, 2, none⟩) lq9).trans hy2, ((U1.out).cell (p := ⟨b3, 3, none⟩) lq9).trans hy3, ((U1.out).cell (p := ⟨b3, 4, none⟩) lq9).trans hy4⟩) ?_; clear hK K; (try simp only [Act.put, pS, pZ, pC]))
              clear hb
              repeat ((first | refine wpMix_skip (by rfl) (by rfl) ?_ | (refine wpMix_take (v := ?_) (by rfl) (by rfl) (fun wS hSt => ?_) ?_; rotate_left; (focus ((try dsimp only at hSt); (go_simp <;> with_reducible rfl); done)))); (try simp only [Act.put, pS, pZ, pC]))
              refine wpMix_bar (by rfl) (fun K hK => ?_)
              go_simp
              have hb := alloc_up u1 (.cells #[.slice none 0 0, .slice none 0 0] 26)
              have U2 := qh (U1.out.trans (hb.mono U1.out.size))
              have Z2 := qh (Blk.new u1 26 #[.slice none 0 0, .slice none 0 0])
              have hgz : wb.heap.size ≤ u1.heap.size := U1.out.size
              replace HO := qh (HO.out.keepTU (KeepTU.up hb))
              ((try dsimp only); refine nxK hK _ _ (⟨(Bc9.out.below U2.out Bc9.out.lt).cell 0, (Bc9.out.below U2.out Bc9.out.lt).cell 1, ((U2.out).cell (p := ⟨b3, 0, none⟩) lq9).trans hy0, ((U2.out).cell (p := ⟨b3, 1, none⟩) lq9).trans hy1, ((U2.out).cell (p := ⟨b3, 2, none⟩) lq9).trans hy2, ((U2.out).cell (p := ⟨b3, 3, none⟩) lq9).trans hy3, ((U2.out).cell (p := ⟨b3, 4, none⟩) lq9).trans hy4⟩) ?_; clear hK K; (try simp only [Act.put, pS, pZ, pC]))
              generalize u1.heap.size = gz at Z2 hgz ⊢
              generalize u1.alloc (.cells #[.slice none 0 0, .slice none 0 0] 26) = u2 at U2 HO Z2  ⊢
              clear hb
              refine wpMix_bar (by rfl) (fun K hK => ?_)
              have x0 := Z2.out.cell 0
              have x1 := Z2.out.cell 1
              simp only [gT, gZ, gS] at x0 x1
              have x2 := Z2.out.frozen 0
              have x3 := Z2.out.frozen 1
              go_simp
              have KT := (KeepTU.set_ Z2.out (by decide) (by decide) (by decide) 0 (.slice A8 m8 c8)).trans (KeepTU.set_ (Z2.out.set_ 0 (.slice A8 m8 c8)) (by decide) (by decide) (by decide) 1 (.slice A9 m9 c9))
              have U3 := qh ((U2.out.setCell (p := ⟨gz, 0, none⟩) hgz (.slice A8 m8 c8)).setCell (p := ⟨gz, 1, none⟩) hgz (.slice A9 m9 c9))
              have RC := qh ((HO.out.keepTU KT).rd (by have := HO.out.len; have := Hsh.out.2; omega) Hsh.out.1)
              have Z3 := qh (show Blk (World.setCell (World.setCell u2 ⟨gz, 0, none⟩ (.slice A8 m8 c8)) ⟨gz, 1, none⟩ (.slice A9 m9 c9)) gz 26 #[.slice A8 m8 c8, .slice A9 m9 c9] from (Z2.out.set_ 0 (.slice A8 m8 c8)).set_ 1 (.slice A9 m9 c9))
              ((try dsimp only); refine nxK hK _ _ (⟨(Bc9.out.below U3.out Bc9.out.lt).cell 0, (Bc9.out.below U3.out Bc9.out.lt).cell 1, ((U3.out).cell (p := ⟨b3, 0, none⟩) lq9).trans hy0, ((U3.out).cell (p := ⟨b3, 1, none⟩) lq9).trans hy1, ((U3.out).cell (p := ⟨b3, 2, none⟩) lq9).trans hy2, ((U3.out).cell (p := ⟨b3, 3, none⟩) lq9).trans hy3, ((U3.out).cell (p := ⟨b3, 4, none⟩) lq9).trans hy4⟩) ?_; clear hK K; (try simp only [Act.put, pS, pZ, pC]))
              clear x0 x1 x2 x3 KT
              generalize (World.setCell (World.setCell u2 ⟨gz, 0, none⟩ (.slice A8 m8 c8)) ⟨gz, 1, none⟩ (.slice A9 m9 c9)) = u3 at U3 RC Z3  ⊢
              repeat ((first | refine wpMix_skip (by rfl) (by rfl) ?_ | (refine wpMix_take (v := ?_) (by rfl) (by rfl) (fun wS hSt => ?_) ?_; rotate_left; (focus ((try dsimp only at hSt); (go_simp <;> with_reducible rfl); done)))); (try simp only [Act.put, pS, pZ, pC]))
              refine wpMix_nil ?_
              go_wp2_with fail
              go_meet
              case rel => exact ⟨gz, A8, m8, c8, A9, m9, c9, rfl, rfl, Z3.out, RC.out, U3.out⟩
            · skip
              go_simp
              have hb := alloc_up u0 (.cells #[.slice none 0 0, .slice none 0 0] 26)
              have U1 := qh (U0.out.trans (hb.mono U0.out.size))
              have Z1 := qh (Blk.new u0 26 #[.slice none 0 0, .slice none 0 0])
              have hgz : wb.heap.size ≤ u0.heap.size := U0.out.size
              ((try dsimp only); refine nxK hK _ _ (⟨(Bc9.out.below U1.out Bc9.out.lt).cell 0, (Bc9.out.below U1.out Bc9.out.lt).cell 1, ((U1.out).cell (p := ⟨b3, 0, none⟩) lq9).trans hy0, ((U1.out).cell (p := ⟨b3, 1, none⟩) lq9).trans hy1, ((U1.out).cell (p := ⟨b3, 2, none⟩) lq9).trans hy2, ((U1.out).cell (p := ⟨b3, 3, none⟩) lq9).trans hy3, ((U1.out).cell (p := ⟨b3, 4, none⟩) lq9).trans hy4⟩) ?_; clear hK K; (try simp only [Act.put, pS, pZ, pC]))
              generalize u0.heap.size = gz at Z1 hgz ⊢
              generalize u0.alloc (.cells #[.slice none 0 0, .slice none 0 0] 26) = u1 at U1 Z1 ⊢
              clear hb
              refine wpMix_bar (by rfl) (fun K hK => ?_)
              go_simp
              refine (requestDoI_any A1 A2 Ar m1 c1 m2 c2 mr cr room us ⟨kd, id, xs, gr, nm⟩ u1 (C9.out.up U1.out) Hs.out.v (R9.out.up U1.out) hmc).mono ?_; rintro e u2 ⟨A8, m8, c8, A9, m9, c9, he, hoc, hb⟩
              simp only [Hra.out] at he hoc
              subst he
              have HO := qh hoc
              clear hoc
              have U2 := qh (U1.out.trans (hb.mono U1.out.size))
              have Z2 := qh (Z1.out.below hb Z1.out.lt)
              ((try dsimp only); refine nxK hK _ _ (⟨(Bc9.out.below U2.out Bc9.out.lt).cell 0, (Bc9.out.below U2.out Bc9.out.lt).cell 1, ((U2.out).cell (p := ⟨b3, 0, none⟩) lq9).trans hy0, ((U2.out).cell (p := ⟨b3, 1, none⟩) lq9).trans hy1, ((U2.out).cell (p := ⟨b3, 2, none⟩) lq9).trans hy2, ((U2.out).cell (p := ⟨b3, 3, none⟩) lq9).trans hy3, ((U2.out).cell (p := ⟨b3, 4, none⟩) lq9).trans hy4⟩) ?_; clear hK K; (try simp only [Act.put, pS, pZ, pC]))
              clear hb
              repeat ((first | refine wpMix_skip (by rfl) (by rfl) ?_ | (refine wpMix_take (v := ?_) (by rfl) (by rfl) (fun wS hSt => ?_) ?_; rotate_left; (focus ((try dsimp only at hSt); (go_simp <;> with_reducible rfl); done)))); (try simp only [Act.put, pS, pZ, pC]))
              refine wpMix_bar (by rfl) (fun K hK => ?_)
              have x0 := Z2.out.cell 0
              have x1 := Z2.out.cell 1
              simp only [gT, gZ, gS] at x0 x1
              have x2 := Z2.out.frozen 0
              have x3 := Z2.out.frozen 1
              go_simp
              have KT := (KeepTU.set_ Z2.out (by decide) (by decide) (by decide) 0 (.slice A8 m8 c8)).trans (KeepTU.set_ (Z2.out.set_ 0 (.slice A8 m8 c8)) (by decide) (by decide) (by decide) 1 (.slice A9 m9 c9))
              have U3 := qh ((U2.out.setCell (p := ⟨gz, 0, none⟩) hgz (.slice A8 m8 c8)).setCell (p := ⟨gz, 1, none⟩) hgz (.slice A9 m9 c9))
              have RC := qh ((HO.out.keepTU KT).rd (by have := HO.out.len; have := Hsh.out.2; omega) Hsh.out.1)
              have Z3 := qh (show Blk (World.setCell (World.setCell u2 ⟨gz, 0, none⟩ (.slice A8 m8 c8)) ⟨gz, 1, none⟩ (.slice A9 m9 c9)) gz 26 #[.slice A8 m8 c8, .slice A9 m9 c9] from (Z2.out.set_ 0 (.slice A8 m8 c8)).set_ 1 (.slice A9 m9 c9))
              ((try dsimp only); refine nxK hK _ _ (⟨(Bc9.out.below U3.out Bc9.out.lt).cell 0, (Bc9.out.below U3.out Bc9.out.lt).cell 1, ((U3.out).cell (p := ⟨b3, 0, none⟩) lq9).trans hy0, ((U3.out).cell (p := ⟨b3, 1, none⟩) lq9).trans hy1, ((U3.out).cell (p := ⟨b3, 2, none⟩) lq9).trans hy2, ((U3.out).cell (p := ⟨b3, 3, none⟩) lq9).trans hy3, ((U3.out).cell (p := ⟨b3, 4, none⟩) lq9).trans hy4⟩) ?_; clear hK K; (try simp only [Act.put, pS, pZ, pC]))
              clear x0 x1 x2 x3 KT
              generalize (World.setCell (World.setCell u2 ⟨gz, 0, none⟩ (.slice A8 m8 c8)) ⟨gz, 1, none⟩ (.slice A9 m9 c9)) = u3 at U3 RC Z3  ⊢
              repeat ((first | refine wpMix_skip (by rfl) (by rfl) ?_ | (refine wpMix_take (v := ?_) (by rfl) (by rfl) (fun wS hSt => ?_) ?_; rotate_left; (focus ((try dsimp only at hSt); (go_simp <;> with_reducible rfl); done)))); (try simp only [Act.put, pS, pZ, pC]))
              refine wpMix_nil ?_
              go_wp2_with fail
              go_meet
              case rel => exact ⟨gz, A8, m8, c8, A9, m9, c9, rfl, rfl, Z3.out, RC.out, U3.out⟩
          case rest =>
            obtain ⟨gy, A18, m18, c18, A19, m19, c19, rfl, rfl, hX, hC, hB⟩ := hcut
            obtain ⟨wd, rfl⟩ : ∃ wd : World, wd = wc := ⟨_, rfl⟩
            have B_90 := qh (below_to B9.out hB)
            have X_90 := qh (X9.out.below hB X9.out.lt)
            have Y_90 := qh hX
            have D_90 := qh (D9.out.up hB)
            have E_90 := qh hC
            have I_90 := qh (I9.out.up hB)
            clear hX hC hB
            obtain rfl : m8 = m18 := by have := D_90.out.a.len; have := E_90.out.a.len; omega
            obtain rfl : m9 = m19 := by have := D_90.out.b.len; have := E_90.out.b.len; omega
            obtain rfl : ma = 1 := by have := I_90.out.len; simp at this; omega
            obtain ⟨bi, oi, rfl, li, hi⟩ := I_90.out.at_ (k := 0) (by omega)
            simp only [Nat.add_zero, gZ, Option.getD_some] at hi
            have heq : (na == na) = true := by simp
            have yX0 := X_90.out.cell 0
            have yX1 := X_90.out.cell 1
            have yY0 := Y_90.out.cell 0
            have yY1 := Y_90.out.cell 1
            simp only [gT, gZ, gS] at yX0 yX1 yY0 yY1
            go_wp2_with fail
            refine (sameCluster_any A8 A9 A18 A19 m8 c8 m9 c9 c18 c19 _ _ wd D_90.out E_90.out).mono ?_; rintro e v91 ⟨rfl, hb⟩
            have B_91 := qh (below_to B_90.out hb)
            have D_91 := qh (D_90.out.up hb)
            have E_91 := qh (E_90.out.up hb)
            have X_91 := qh (X_90.out.below hb X_90.out.lt)
            have Y_91 := qh (Y_90.out.below hb Y_90.out.lt)
            clear hb yX0 yX1 yY0 yY1 B_90 D_90 E_90 X_90 Y_90
            have yX0 := X_91.out.cell 0
            have yX1 := X_91.out.cell 1
            have yY0 := Y_91.out.cell 0
            have yY1 := Y_91.out.cell 1
            simp only [gT, gZ, gS] at yX0 yX1 yY0 yY1
            go_wp2_with fail
            go_ret
            exact ⟨rfl, B_91.out⟩
end Go.Proofs.YtlegpecjoaklnaaGreatDoor
