/- Walk: the law FnPlayRefused. (Printed by gen_rqlaws.py.) -/
import Derived.Test.YtlegpecjoaklnaaGreatDoorDrawRqs
import Derived.Test.YtlegpecjoaklnaaGreatDoorJ14
import Derived.Test.YtlegpecjoaklnaaGreatDoorRqKit
namespace Go.Proofs.YtlegpecjoaklnaaGreatDoor
set_option linter.unusedVariables false
open Go Go.RowKit
attribute [local go_sem ↓] Go.wp_at_zero Go.wp_at_succ

set_option maxRecDepth 100000 in
set_option maxHeartbeats 6400000 in
theorem playRefused_walk (A : Option Addr) (n c : Nat) (w : World) (h : RdU w w.heap.size A n) (hc : n ≤ c) (hcm : c ≤ 9223372036854775807) :
    Calls Tryz.prog 11 #[.slice A n c] w fun e w' => e = .returned (.bool true) ∧ Below w.heap.size w w' := by
  obtain ⟨i0, hi0, hz0, hz1, hz2⟩ := info_parts rq_info
  by_cases kn : 1048576 < n
  · go_enter Tryz.func11, Tryz.ntmps11
    go_wp2
    go_ret
    exact ⟨rfl, Below.refl _ _⟩
  go_enter Tryz.func11, Tryz.ntmps11
  go_wp2_with fail
  refine (drawRequestsPlay_any A n c w h hc hcm).mono ?_; rintro e v1 ⟨A1, m1, c1, A2, m2, c2, room, us, b3, n3, c3, rs, rfl, hcr, hs, hm1, hc1, hc2, hq, hn3, hc3, hb⟩
  have B_1 := qh (hb)
  have C_1 := qh (hcr)
  have Q_1 := qh (hq)
  clear hb
  have hlr := hq.len
  clear hcr hq h
  have Hs := qh hs
  have Hlr := qh hlr
  have Hq := qh (playP_sh (room := room) (us := us) rs)
  clear hs hlr
  have al := alloc_up v1 (.cells #[.slice A1 m1 c1, .slice A2 m2 c2] 26)
  have B_2 := qh (below_to B_1.out al)
  have C_2 := qh (C_1.out.up al)
  have Q_2 := qh (Q_1.out.up al)
  have hq := Blk.new v1 26 #[.slice A1 m1 c1, .slice A2 m2 c2]
  have Bc_2 := qh hq
  clear al hq B_1 C_1 Q_1
  obtain ⟨po, pu, pc, hp⟩ : ∃ po pu pc, playP room us rs = (po, pu, pc) := ⟨_, _, _, rfl⟩
  have Hp := qh hp
  clear hp
  rw [Hp.out] at Hq
  dsimp only at Hq
  have yBc0 := Bc_2.out.cell 0
  have yBc1 := Bc_2.out.cell 1
  simp only [gT, gZ, gS] at yBc0 yBc1
  go_wp2_with fail
  generalize v1.alloc (.cells #[.slice A1 m1 c1, .slice A2 m2 c2] 26) = z2 at B_2 C_2 Q_2 Bc_2 yBc0 yBc1 ⊢
  refine (requestsPlayI_any A1 A2 (some ⟨b3, 0, none⟩) m1 c1 m2 c2 n3 c3 room us rs z2 C_2.out Hs.out.v Q_2.out).mono ?_; rintro e v3 ⟨A4, m4, c4, A5, m5, c5, Ak, mk, ck, he, hoc, hown, hb⟩
  simp only [Hp.out] at he hoc hown
  subst he
  have hl := hoc.len
  have hl2 := hoc.lenU
  have hlk := own_len hown
  have B_3 := qh (below_to B_2.out hb)
  have C_3 := qh (C_2.out.up hb)
  have Q_3 := qh (Q_2.out.up hb)
  have Bc_3 := qh (Bc_2.out.below hb Bc_2.out.lt)
  have D_3 := qh (hoc.rd (by have := Hq.out.2; omega) Hq.out.1)
  have K_3 := qh (own_rdI hown (own_le hown))
  clear hb yBc0 yBc1 B_2 C_2 Q_2 Bc_2
  clear hoc hown
  have al := alloc_up v3 (.cells #[.slice A4 m4 c4, .slice A5 m5 c5] 26)
  have B_4 := qh (below_to B_3.out al)
  have C_4 := qh (C_3.out.up al)
  have Q_4 := qh (Q_3.out.up al)
  have Bc_4 := qh (Bc_3.out.below al Bc_3.out.lt)
  have D_4 := qh (D_3.out.up al)
  have K_4 := qh (K_3.out.up al)
  have hq := Blk.new v3 26 #[.slice A4 m4 c4, .slice A5 m5 c5]
  have Bo_4 := qh hq
  clear al hq B_3 C_3 Q_3 Bc_3 D_3 K_3
  have yBc0 := Bc_4.out.cell 0
  have yBc1 := Bc_4.out.cell 1
  have yBo0 := Bo_4.out.cell 0
  have yBo1 := Bo_4.out.cell 1
  simp only [gT, gZ, gS] at yBc0 yBc1 yBo0 yBo1
  go_wp2_with fail
  generalize v3.alloc (.cells #[.slice A4 m4 c4, .slice A5 m5 c5] 26) = z4 at B_4 C_4 Q_4 Bc_4 D_4 K_4 Bo_4 yBc0 yBc1 yBo0 yBo1 ⊢
  refine (requestsPlayS_any A1 A2 (some ⟨b3, 0, none⟩) m1 c1 m2 c2 n3 c3 room us rs z4 C_4.out Hs.out.v (by omega) Q_4.out).mono ?_; rintro e v5 ⟨A6, m6, c6, A7, m7, c7, At, mt, ct, he, hrc, hri, hb⟩
  simp only [Hp.out] at he hrc hri
  subst he
  obtain rfl : m6 = m4 := by have := hrc.a.len; omega
  obtain rfl : m7 = m5 := by have := hrc.b.len; omega
  obtain rfl : mk = mt := by have := hri.len; omega
  have B_5 := qh (below_to B_4.out hb)
  have C_5 := qh (C_4.out.up hb)
  have Q_5 := qh (Q_4.out.up hb)
  have Bc_5 := qh (Bc_4.out.below hb Bc_4.out.lt)
  have D_5 := qh (D_4.out.up hb)
  have K_5 := qh (K_4.out.up hb)
  have Bo_5 := qh (Bo_4.out.below hb Bo_4.out.lt)
  have E_5 := qh (hrc)
  have T_5 := qh (hri)
  clear hb yBc0 yBc1 yBo0 yBo1 B_4 C_4 Q_4 Bc_4 D_4 K_4 Bo_4
  have Hlk := qh hlk
  clear hrc hri hl hl2 hlk
  have al := alloc_up v5 (.cells #[.slice A6 m6 c6, .slice A7 m7 c7] 26)
  have B_6 := qh (below_to B_5.out al)
  have C_6 := qh (C_5.out.up al)
  have Q_6 := qh (Q_5.out.up al)
  have Bc_6 := qh (Bc_5.out.below al Bc_5.out.lt)
  have D_6 := qh (D_5.out.up al)
  have K_6 := qh (K_5.out.up al)
  have Bo_6 := qh (Bo_5.out.below al Bo_5.out.lt)
  have E_6 := qh (E_5.out.up al)
  have T_6 := qh (T_5.out.up al)
  have hq := Blk.new v5 26 #[.slice A6 m6 c6, .slice A7 m7 c7]
  have Bw_6 := qh hq
  clear al hq B_5 C_5 Q_5 Bc_5 D_5 K_5 Bo_5 E_5 T_5
  have yBc0 := Bc_6.out.cell 0
  have yBc1 := Bc_6.out.cell 1
  have yBo0 := Bo_6.out.cell 0
  have yBo1 := Bo_6.out.cell 1
  have yBw0 := Bw_6.out.cell 0
  have yBw1 := Bw_6.out.cell 1
  simp only [gT, gZ, gS] at yBc0 yBc1 yBo0 yBo1 yBw0 yBw1
  go_wp2_with fail
  generalize v5.alloc (.cells #[.slice A6 m6 c6, .slice A7 m7 c7] 26) = z6 at B_6 C_6 Q_6 Bc_6 D_6 K_6 Bo_6 E_6 T_6 Bw_6 yBc0 yBc1 yBo0 yBo1 yBw0 yBw1 ⊢
  refine (sameInts_any Ak At mk ck ct _ _ _ z6 K_6.out T_6.out).mono ?_; rintro e v7 ⟨rfl, mq, hw⟩
  have hb := drew_below z6 mq
  rw [hw] at hb
  clear hw
  have B_7 := qh (below_to B_6.out hb)
  have C_7 := qh (C_6.out.up hb)
  have Q_7 := qh (Q_6.out.up hb)
  have Bc_7 := qh (Bc_6.out.below hb Bc_6.out.lt)
  have D_7 := qh (D_6.out.up hb)
  have K_7 := qh (K_6.out.up hb)
  have Bo_7 := qh (Bo_6.out.below hb Bo_6.out.lt)
  have E_7 := qh (E_6.out.up hb)
  have T_7 := qh (T_6.out.up hb)
  have Bw_7 := qh (Bw_6.out.below hb Bw_6.out.lt)
  clear hb yBc0 yBc1 yBo0 yBo1 yBw0 yBw1 B_6 C_6 Q_6 Bc_6 D_6 K_6 Bo_6 E_6 T_6 Bw_6
  have yBc0 := Bc_7.out.cell 0
  have yBc1 := Bc_7.out.cell 1
  have yBo0 := Bo_7.out.cell 0
  have yBo1 := Bo_7.out.cell 1
  have yBw0 := Bw_7.out.cell 0
  have yBw1 := Bw_7.out.cell 1
  simp only [gT, gZ, gS] at yBc0 yBc1 yBo0 yBo1 yBw0 yBw1
  go_wp2_with fail
  refine (sameCluster_any A4 A5 A6 A7 m6 c4 m7 c5 c6 c7 _ _ v7 D_7.out E_7.out).mono ?_; rintro e v8 ⟨rfl, hb⟩
  have B_8 := qh (below_to B_7.out hb)
  have C_8 := qh (C_7.out.up hb)
  have Q_8 := qh (Q_7.out.up hb)
  have Bc_8 := qh (Bc_7.out.below hb Bc_7.out.lt)
  have D_8 := qh (D_7.out.up hb)
  have K_8 := qh (K_7.out.up hb)
  have Bo_8 := qh (Bo_7.out.below hb Bo_7.out.lt)
  have E_8 := qh (E_7.out.up hb)
  have T_8 := qh (T_7.out.up hb)
  have Bw_8 := qh (Bw_7.out.below hb Bw_7.out.lt)
  clear hb yBc0 yBc1 yBo0 yBo1 yBw0 yBw1 B_7 C_7 Q_7 Bc_7 D_7 K_7 Bo_7 E_7 T_7 Bw_7
  have yBc0 := Bc_8.out.cell 0
  have yBc1 := Bc_8.out.cell 1
  have yBo0 := Bo_8.out.cell 0
  have yBo1 := Bo_8.out.cell 1
  have yBw0 := Bw_8.out.cell 0
  have yBw1 := Bw_8.out.cell 1
  simp only [gT, gZ, gS] at yBc0 yBc1 yBo0 yBo1 yBw0 yBw1
  go_wp2_with fail
  refine (clusterValidS_any A1 A2 m1 c1 m2 c2 room us v8 C_8.out Hs.out).mono ?_; rintro e v9 ⟨rfl, hb⟩
  have B_9 := qh (below_to B_8.out hb)
  have C_9 := qh (C_8.out.up hb)
  have Q_9 := qh (Q_8.out.up hb)
  have Bc_9 := qh (Bc_8.out.below hb Bc_8.out.lt)
  have D_9 := qh (D_8.out.up hb)
  have K_9 := qh (K_8.out.up hb)
  have Bo_9 := qh (Bo_8.out.below hb Bo_8.out.lt)
  have E_9 := qh (E_8.out.up hb)
  have T_9 := qh (T_8.out.up hb)
  have Bw_9 := qh (Bw_8.out.below hb Bw_8.out.lt)
  clear hb yBc0 yBc1 yBo0 yBo1 yBw0 yBw1 B_8 C_8 Q_8 Bc_8 D_8 K_8 Bo_8 E_8 T_8 Bw_8
  cases hok : clOk room us with
  | false =>
    have yBc0 := Bc_9.out.cell 0
    have yBc1 := Bc_9.out.cell 1
    have yBo0 := Bo_9.out.cell 0
    have yBo1 := Bo_9.out.cell 1
    have yBw0 := Bw_9.out.cell 0
    have yBw1 := Bw_9.out.cell 1
    simp only [gT, gZ, gS] at yBc0 yBc1 yBo0 yBo1 yBw0 yBw1
    go_wp2_with fail
    refine (sameInts_any Ak At mk ck ct _ _ _ v9 K_9.out T_9.out).mono ?_; rintro e v10 ⟨rfl, mq, hw⟩
    have hb := drew_below v9 mq
    rw [hw] at hb
    clear hw
    have B_10 := qh (below_to B_9.out hb)
    have C_10 := qh (C_9.out.up hb)
    have Q_10 := qh (Q_9.out.up hb)
    have Bc_10 := qh (Bc_9.out.below hb Bc_9.out.lt)
    have D_10 := qh (D_9.out.up hb)
    have K_10 := qh (K_9.out.up hb)
    have Bo_10 := qh (Bo_9.out.below hb Bo_9.out.lt)
    have E_10 := qh (E_9.out.up hb)
    have T_10 := qh (T_9.out.up hb)
    have Bw_10 := qh (Bw_9.out.below hb Bw_9.out.lt)
    clear hb yBc0 yBc1 yBo0 yBo1 yBw0 yBw1 B_9 C_9 Q_9 Bc_9 D_9 K_9 Bo_9 E_9 T_9 Bw_9
    have yBc0 := Bc_10.out.cell 0
    have yBc1 := Bc_10.out.cell 1
    have yBo0 := Bo_10.out.cell 0
    have yBo1 := Bo_10.out.cell 1
    have yBw0 := Bw_10.out.cell 0
    have yBw1 := Bw_10.out.cell 1
    simp only [gT, gZ, gS] at yBc0 yBc1 yBo0 yBo1 yBw0 yBw1
    go_wp2_with fail
    refine (sameCluster_any A4 A5 A6 A7 m6 c4 m7 c5 c6 c7 _ _ v10 D_10.out E_10.out).mono ?_; rintro e v11 ⟨rfl, hb⟩
    have B_11 := qh (below_to B_10.out hb)
    have C_11 := qh (C_10.out.up hb)
    have Q_11 := qh (Q_10.out.up hb)
    have Bc_11 := qh (Bc_10.out.below hb Bc_10.out.lt)
    have D_11 := qh (D_10.out.up hb)
    have K_11 := qh (K_10.out.up hb)
    have Bo_11 := qh (Bo_10.out.below hb Bo_10.out.lt)
    have E_11 := qh (E_10.out.up hb)
    have T_11 := qh (T_10.out.up hb)
    have Bw_11 := qh (Bw_10.out.below hb Bw_10.out.lt)
    clear hb yBc0 yBc1 yBo0 yBo1 yBw0 yBw1 B_10 C_10 Q_10 Bc_10 D_10 K_10 Bo_10 E_10 T_10 Bw_10
    have yBc0 := Bc_11.out.cell 0
    have yBc1 := Bc_11.out.cell 1
    have yBo0 := Bo_11.out.cell 0
    have yBo1 := Bo_11.out.cell 1
    have yBw0 := Bw_11.out.cell 0
    have yBw1 := Bw_11.out.cell 1
    simp only [gT, gZ, gS] at yBc0 yBc1 yBo0 yBo1 yBw0 yBw1
    go_wp2_with fail
    go_ret
    exact ⟨rfl, B_11.out⟩
  | true =>
    have Hok := qh hok
    clear hok
    by_cases h30 : 30 < n3
    · have q30 : (30 : Int) < (n3 : Int) := by omega
      have yBc0 := Bc_9.out.cell 0
      have yBc1 := Bc_9.out.cell 1
      have yBo0 := Bo_9.out.cell 0
      have yBo1 := Bo_9.out.cell 1
      have yBw0 := Bw_9.out.cell 0
      have yBw1 := Bw_9.out.cell 1
      simp only [gT, gZ, gS] at yBc0 yBc1 yBo0 yBo1 yBw0 yBw1
      go_wp2_with fail
      refine (sameInts_any Ak At mk ck ct _ _ _ v9 K_9.out T_9.out).mono ?_; rintro e v10 ⟨rfl, mq, hw⟩
      have hb := drew_below v9 mq
      rw [hw] at hb
      clear hw
      have B_10 := qh (below_to B_9.out hb)
      have C_10 := qh (C_9.out.up hb)
      have Q_10 := qh (Q_9.out.up hb)
      have Bc_10 := qh (Bc_9.out.below hb Bc_9.out.lt)
      have D_10 := qh (D_9.out.up hb)
      have K_10 := qh (K_9.out.up hb)
      have Bo_10 := qh (Bo_9.out.below hb Bo_9.out.lt)
      have E_10 := qh (E_9.out.up hb)
      have T_10 := qh (T_9.out.up hb)
      have Bw_10 := qh (Bw_9.out.below hb Bw_9.out.lt)
      clear hb yBc0 yBc1 yBo0 yBo1 yBw0 yBw1 B_9 C_9 Q_9 Bc_9 D_9 K_9 Bo_9 E_9 T_9 Bw_9
      have yBc0 := Bc_10.out.cell 0
      have yBc1 := Bc_10.out.cell 1
      have yBo0 := Bo_10.out.cell 0
      have yBo1 := Bo_10.out.cell 1
      have yBw0 := Bw_10.out.cell 0
      have yBw1 := Bw_10.out.cell 1
      simp only [gT, gZ, gS] at yBc0 yBc1 yBo0 yBo1 yBw0 yBw1
      go_wp2_with fail
      refine (sameCluster_any A4 A5 A6 A7 m6 c4 m7 c5 c6 c7 _ _ v10 D_10.out E_10.out).mono ?_; rintro e v11 ⟨rfl, hb⟩
      have B_11 := qh (below_to B_10.out hb)
      have C_11 := qh (C_10.out.up hb)
      have Q_11 := qh (Q_10.out.up hb)
      have Bc_11 := qh (Bc_10.out.below hb Bc_10.out.lt)
      have D_11 := qh (D_10.out.up hb)
      have K_11 := qh (K_10.out.up hb)
      have Bo_11 := qh (Bo_10.out.below hb Bo_10.out.lt)
      have E_11 := qh (E_10.out.up hb)
      have T_11 := qh (T_10.out.up hb)
      have Bw_11 := qh (Bw_10.out.below hb Bw_10.out.lt)
      clear hb yBc0 yBc1 yBo0 yBo1 yBw0 yBw1 B_10 C_10 Q_10 Bc_10 D_10 K_10 Bo_10 E_10 T_10 Bw_10
      have yBc0 := Bc_11.out.cell 0
      have yBc1 := Bc_11.out.cell 1
      have yBo0 := Bo_11.out.cell 0
      have yBo1 := Bo_11.out.cell 1
      have yBw0 := Bw_11.out.cell 0
      have yBw1 := Bw_11.out.cell 1
      simp only [gT, gZ, gS] at yBc0 yBc1 yBo0 yBo1 yBw0 yBw1
      go_wp2_with fail
      go_ret
      exact ⟨rfl, B_11.out⟩
    · have q30 : ¬ (30 : Int) < (n3 : Int) := by omega
      have e := (play_yes Hok.out (by have := Hlr.out; omega)).symm.trans Hp.out
      injection e with e1 e2
      subst e1
      have HU := qh e2
      clear e2
      have hk5 := play_ok (room := room) rs us Hok.out
      rw [HU.out] at hk5
      dsimp only at hk5
      have lk : mk = n3 := by have := hk5.2; have := Hlk.out; have := Hlr.out; omega
      subst lk
      have Hk5 := qh hk5
      clear hk5
      have O0 := qh (show (v9.alloc (.cells #[] 35)).ownsRow v9.heap.size 35 5 (.slice (some ⟨v9.heap.size, 0, none⟩) 0 0) 0 [] from World.ownsRow_made v9 #[] 0 (Nat.le_refl _) (by unfold maxLen; omega) rfl)
      have A0 := qh (alloc_up v9 (.cells #[] 35))
      go_wp2_with fail
      go_loopw [9, 10] (fun v i wr => ∃ (k b m cc : Nat) (vs : List Value), i = .int .i64 k ∧ k ≤ mk ∧ v = .slice (some ⟨b, 0, none⟩) m cc ∧ Below v9.heap.size v9 wr ∧ wr.ownsRow v9.heap.size 35 5 (.slice (some ⟨b, 0, none⟩) m cc) m vs ∧ RqCells (fun A m xs => RdI v9 v9.heap.size A m xs) vs (doneR (rs.take k) (pc.take k)) ∧ Hid ((doneR (rs.take k) (pc.take k)).length = m)) (fun _ i _ => mk - (intOf i).toNat)
      case atStart => exact ⟨0, v9.heap.size, 0, 0, [], rfl, Nat.zero_le _, rfl, A0.out, O0.out, by simpa [doneR] using RqCells.nil, qh (by simp [doneR])⟩
      case round =>
        clear A0 O0
        obtain ⟨k, b, m, cc, vs, rfl, hk, rfl, hbel, hown, hcs, hm⟩ := hrel
        have Hb := qh hbel
        have Hown := qh hown
        have Hcs := qh hcs
        have lz := hbel.size
        clear hbel hown hcs
        have hq1 := done_len (rs.take k) (pc.take k)
        have hq2 : (rs.take k).length ≤ 30 := by rw [List.length_take]; omega
        have lm : m ≤ 30 := by have := hm.out; omega
        clear hq1 hq2
        by_cases hlt : k < mk
        · obtain ⟨b1, o1, rfl, l1, hx1⟩ := (K_9.out.up Hb.out).at_ hlt
          obtain ⟨b2, o2, A2', m2', c2', e2, l2, hy0, hy1, hy2, hy3, hy4, hmc, hrd⟩ := Q_9.out.at_ hlt
          injection e2 with e2
          injection e2 with e2 e3
          subst e2 e3
          have Hst := qh (done_snoc (rs := rs) (cs := pc) (k := k) (by have := Hlr.out; omega) (by have := Hlk.out; omega))
          replace hy0 := (Hb.out.cell (p := ⟨b3, 0 + k * 5, none⟩) l2).trans hy0
          replace hy1 := (Hb.out.cell (p := ⟨b3, 0 + k * 5 + 1, none⟩) l2).trans hy1
          replace hy2 := (Hb.out.cell (p := ⟨b3, 0 + k * 5 + 2, none⟩) l2).trans hy2
          replace hy3 := (Hb.out.cell (p := ⟨b3, 0 + k * 5 + 3, none⟩) l2).trans hy3
          replace hy4 := (Hb.out.cell (p := ⟨b3, 0 + k * 5 + 4, none⟩) l2).trans hy4
          simp only [Nat.zero_add] at hy0 hy1 hy2 hy3 hy4
          have Hrd := qh hrd
          clear hrd
          have kk1 : (0 : Int) ≤ (k : Int) := by omega
          have kk2 : (k : Int) < (mk : Int) := by omega
          have kk3 : 0 ≤ (k : Int) * 5 := by omega
          generalize doneR (rs.take k) (pc.take k) = ds at *
          generalize pc[k]?.getD 0 = co at *
          generalize (rs[k]?.getD rq0) = r at *
          obtain ⟨kd, id, xs, gr, nm⟩ := r
          dsimp only at hy0 hy1 hy2 hy3 hy4 Hrd
          by_cases h0 : co = 0
          · have t0 : (co == 0) = true := by rw [h0]; rfl
            have H0 := qh h0
            clear h0
            have al := alloc_up wr (.cells #[.int .i64 kd, .int .i64 id, .slice A2' m2' c2', .bool gr, .int .i64 nm] 35)
            have O10 := qh (own_alloc Hown.out (.cells #[.int .i64 kd, .int .i64 id, .slice A2' m2' c2', .bool gr, .int .i64 nm] 35))
            have B10 := qh (Hb.out.trans (al.mono lz))
            have S10 := qh (lit5 wr 35 (.int .i64 kd) (.int .i64 id) (.slice A2' m2' c2') (.bool gr) (.int .i64 nm))
            have lb10 : v9.heap.size ≤ (wr.alloc (.cells #[.int .i64 kd, .int .i64 id, .slice A2' m2' c2', .bool gr, .int .i64 nm] 35)).heap.size := by simp; omega
            clear al
            go_wp2_with (at_builtin; go_loud (refine wpList_append_src _ rfl _ _ 54 rfl v9.heap.size 35 i0 _ 5 56 Tryz.underlying54 hi0 hz0 hz1 hz2 rfl (by omega) (.slice (some ⟨b, 0, none⟩) m cc) m vs rfl O10.out (some ⟨wr.heap.size, 0, none⟩) 1 1 [.int .i64 kd, .int .i64 id, .slice A2' m2' c2', .bool gr, .int .i64 nm] rfl S10.out (by simp [Value.oneCell']) (by unfold maxLen; omega) (by omega) lb10 ?_); intro v' wz hownz hgrow hat; obtain ⟨A9, c9, rfl⟩ := own_shape hownz)
            obtain ⟨b9, rfl⟩ := own_some hownz (by omega)
            have B11 := qh (B10.out.grown hgrow lb10 (fun j e => (O10.out.lt j e).1))
            have O11 := qh hownz
            have V11 := qh (RqCells.snoc (r := ⟨kd, id, xs, gr, nm⟩) Hcs.out hmc Hrd.out)
            clear hownz hgrow hat
            go_roundw
            case measure => simp [intOf]; omega
            case rel => exact ⟨k + 1, b9, m + 1, c9, _, by go_num, by omega, rfl, B11.out, O11.out, by rw [Hst.out, if_pos H0.out]; exact V11.out, qh (by rw [Hst.out, if_pos H0.out, List.length_append, hm.out]; rfl)⟩
          · have t0 : (co == 0) = false := by simpa using h0
            have H0 := qh h0
            clear h0
            go_wp2_with fail
            go_roundw
            case measure => simp [intOf]; omega
            case rel => exact ⟨k + 1, b, m, cc, vs, by go_num, by omega, rfl, Hb.out, Hown.out, by rw [Hst.out, if_neg H0.out]; exact Hcs.out, qh (by rw [Hst.out, if_neg H0.out]; exact hm.out)⟩
        · obtain rfl : k = mk := by omega
          have hd : doneR (rs.take k) (pc.take k) = doneR rs pc := by rw [List.take_of_length_le (by have := Hlr.out; omega), List.take_of_length_le (by have := Hlk.out; omega)]
          rw [hd] at Hcs hm
          clear hd
          have hpd := play_done (room := room) rs us Hok.out
          rw [HU.out] at hpd
          dsimp only at hpd
          have HPD := qh ((play_yes (rs := doneR rs pc) Hok.out (by have := hm.out; omega)))
          have Hpd := qh hpd
          clear hpd
          have RQ := qh (RdQ.of_own Hown.out Hcs.out hm.out (fun A m xs h => h.up Hb.out))
          have B_95 := qh (below_to B_9.out Hb.out)
          have C_95 := qh (C_9.out.up Hb.out)
          have D_95 := qh (D_9.out.up Hb.out)
          have Bo_95 := qh (Bo_9.out.below Hb.out Bo_9.out.lt)
          have Bc_95 := qh (Bc_9.out.below Hb.out Bc_9.out.lt)
          clear Hown Hcs
          have yBo0 := Bo_95.out.cell 0
          have yBo1 := Bo_95.out.cell 1
          have yBc0 := Bc_95.out.cell 0
          have yBc1 := Bc_95.out.cell 1
          simp only [gT, gZ, gS] at yBo0 yBo1 yBc0 yBc1
          go_wp2_with fail
          refine (requestsPlayI_any A1 A2 (some ⟨b, 0, none⟩) m1 c1 m2 c2 m cc room us (doneR rs pc) wr C_95.out Hs.out.v RQ.out).mono ?_; rintro e v96 ⟨A10, m10, c10, A11, m11, c11, A12, m12, c12, he, hoc, hown, hb⟩
          rw [HPD.out] at hoc hown
          dsimp only at hoc hown
          rw [Hpd.out] at hoc
          subst he
          obtain rfl : m6 = m10 := by have := (D_95.out).a.len; have := hoc.len; omega
          obtain rfl : m7 = m11 := by have := (D_95.out).b.len; have := hoc.lenU; omega
          have B_96 := qh (below_to B_95.out hb)
          have C_96 := qh (C_95.out.up hb)
          have D_96 := qh (D_95.out.up hb)
          have Bo_96 := qh (Bo_95.out.below hb Bo_95.out.lt)
          have Bc_96 := qh (Bc_95.out.below hb Bc_95.out.lt)
          have X_96 := qh (hoc.rd (by have := Hq.out.2; have := hoc.len; omega) Hq.out.1)
          clear hb yBo0 yBo1 yBc0 yBc1 B_95 C_95 D_95 Bo_95 Bc_95
          clear hoc hown
          have al := alloc_up v96 (.cells #[.slice A10 m6 c10, .slice A11 m7 c11] 26)
          have B_97 := qh (below_to B_96.out al)
          have C_97 := qh (C_96.out.up al)
          have D_97 := qh (D_96.out.up al)
          have Bo_97 := qh (Bo_96.out.below al Bo_96.out.lt)
          have Bc_97 := qh (Bc_96.out.below al Bc_96.out.lt)
          have X_97 := qh (X_96.out.up al)
          have hq := Blk.new v96 26 #[.slice A10 m6 c10, .slice A11 m7 c11]
          have Bx_97 := qh hq
          clear al hq B_96 C_96 D_96 Bo_96 Bc_96 X_96
          have yBo0 := Bo_97.out.cell 0
          have yBo1 := Bo_97.out.cell 1
          have yBc0 := Bc_97.out.cell 0
          have yBc1 := Bc_97.out.cell 1
          have yBx0 := Bx_97.out.cell 0
          have yBx1 := Bx_97.out.cell 1
          simp only [gT, gZ, gS] at yBo0 yBo1 yBc0 yBc1 yBx0 yBx1
          go_wp2_with fail
          generalize v96.alloc (.cells #[.slice A10 m6 c10, .slice A11 m7 c11] 26) = z97 at B_97 C_97 D_97 Bo_97 Bc_97 X_97 Bx_97 yBo0 yBo1 yBc0 yBc1 yBx0 yBx1 ⊢
          refine (sameCluster_any A10 A11 A4 A5 m6 c10 m7 c11 c4 c5 _ _ z97 X_97.out D_97.out).mono ?_; rintro e v98 ⟨rfl, hb⟩
          have B_98 := qh (below_to B_97.out hb)
          have C_98 := qh (C_97.out.up hb)
          have D_98 := qh (D_97.out.up hb)
          have Bo_98 := qh (Bo_97.out.below hb Bo_97.out.lt)
          have Bc_98 := qh (Bc_97.out.below hb Bc_97.out.lt)
          have X_98 := qh (X_97.out.up hb)
          have Bx_98 := qh (Bx_97.out.below hb Bx_97.out.lt)
          clear hb yBo0 yBo1 yBc0 yBc1 yBx0 yBx1 B_97 C_97 D_97 Bo_97 Bc_97 X_97 Bx_97
          have heq : ((k : Int) == (k : Int)) = true := by simp
          have yBo0 := Bo_98.out.cell 0
          have yBo1 := Bo_98.out.cell 1
          have yBc0 := Bc_98.out.cell 0
          have yBc1 := Bc_98.out.cell 1
          have yBx0 := Bx_98.out.cell 0
          have yBx1 := Bx_98.out.cell 1
          simp only [gT, gZ, gS] at yBo0 yBo1 yBc0 yBc1 yBx0 yBx1
          go_wp2_with fail
          go_ret
          exact ⟨rfl, B_98.out⟩
end Go.Proofs.YtlegpecjoaklnaaGreatDoor
