/- Walk: the law FnGather. (Printed by gen_rqlaws.py.) -/
import Derived.Test.YtlegpecjoaklnaaGreatDoorDrawRqs
import Derived.Test.YtlegpecjoaklnaaGreatDoorJ14
import Derived.Test.YtlegpecjoaklnaaGreatDoorRqKit
import Derived.Deep.CutBlock
import Derived.Deep.DeepCutAuto
import Derived.Test.YtlegpecjoaklnaaGreatDoorJ3
namespace Go.Proofs.YtlegpecjoaklnaaGreatDoor
set_option linter.unusedVariables false
open Go Go.RowKit
attribute [local go_sem ↓] Go.wp_at_zero Go.wp_at_succ

set_option maxRecDepth 100000 in
set_option maxHeartbeats 6400000 in
theorem gather_walk (A : Option Addr) (n c : Nat) (w : World) (h : RdU w w.heap.size A n) (hc : n ≤ c) (hcm : c ≤ 9223372036854775807) :
    Calls Tryz.prog 8 #[.slice A n c] w fun e w' => e = .returned (.bool true) ∧ Below w.heap.size w w' := by
  by_cases kn : 1048576 < n
  · go_enter Tryz.func8, Tryz.ntmps8
    go_wp2
    go_ret
    exact ⟨rfl, Below.refl _ _⟩
  go_enter Tryz.func8, Tryz.ntmps8
  go_wp2_with fail
  refine (drawRequestDo_any A n c w h hc hcm).mono ?_; rintro e v1 ⟨A1, m1, c1, A2, m2, c2, room, us, ⟨kd, id, xs, gr, nm⟩, A3, m3, c3, rfl, hcr, hs, hm1, hc1, hc2, hx, hm3, hc3, hb⟩
  have B_1 := qh (hb)
  have C_1 := qh (hcr)
  have Q_1 := qh (show RdI v1 v1.heap.size A3 m3 xs from hx)
  clear hb
  clear hcr hx h
  have Hs := qh hs
  have Hq := qh (reqP_sh (room := room) (us := us) ⟨kd, id, xs, gr, nm⟩)
  clear hs
  have al := alloc_up v1 (.cells #[.slice A1 m1 c1, .slice A2 m2 c2] 26)
  have B_2 := qh (below_to B_1.out al)
  have C_2 := qh (C_1.out.up al)
  have Q_2 := qh (Q_1.out.up al)
  have hq := Blk.new v1 26 #[.slice A1 m1 c1, .slice A2 m2 c2]
  have Bc_2 := qh hq
  clear al hq B_1 C_1 Q_1
  have al := alloc_up (v1.alloc (.cells #[.slice A1 m1 c1, .slice A2 m2 c2] 26)) (.cells #[.int .i64 kd, .int .i64 id, .slice A3 m3 c3, .bool gr, .int .i64 nm] 35)
  have B_3 := qh (below_to B_2.out al)
  have C_3 := qh (C_2.out.up al)
  have Q_3 := qh (Q_2.out.up al)
  have Bc_3 := qh (Bc_2.out.below al Bc_2.out.lt)
  have hq := Blk.new (v1.alloc (.cells #[.slice A1 m1 c1, .slice A2 m2 c2] 26)) 35 #[.int .i64 kd, .int .i64 id, .slice A3 m3 c3, .bool gr, .int .i64 nm]
  rw [World.size_alloc] at hq
  have Br_3 := qh hq
  clear al hq B_2 C_2 Q_2 Bc_2
  obtain ⟨ro, uo, nn, hp⟩ : ∃ ro uo nn, reqP room us ⟨kd, id, xs, gr, nm⟩ = (ro, uo, nn) := ⟨_, _, _, rfl⟩
  have Hp := qh hp
  clear hp
  rw [Hp.out] at Hq
  dsimp only at Hq
  have yBc0 := Bc_3.out.cell 0
  have yBc1 := Bc_3.out.cell 1
  have yBr0 := Br_3.out.cell 0
  have yBr1 := Br_3.out.cell 1
  have yBr2 := Br_3.out.cell 2
  have yBr3 := Br_3.out.cell 3
  have yBr4 := Br_3.out.cell 4
  simp only [gT, gZ, gS] at yBc0 yBc1 yBr0 yBr1 yBr2 yBr3 yBr4
  go_wp2_with fail
  generalize (v1.alloc (.cells #[.slice A1 m1 c1, .slice A2 m2 c2] 26)).alloc (.cells #[.int .i64 kd, .int .i64 id, .slice A3 m3 c3, .bool gr, .int .i64 nm] 35) = z3 at B_3 C_3 Q_3 Bc_3 Br_3 yBc0 yBc1 yBr0 yBr1 yBr2 yBr3 yBr4 ⊢
  refine (requestDoI_any A1 A2 A3 m1 c1 m2 c2 m3 c3 room us ⟨kd, id, xs, gr, nm⟩ z3 C_3.out Hs.out.v Q_3.out hc3).mono ?_; rintro e v4 ⟨A4, m4, c4, A5, m5, c5, he, hoc, hb⟩
  simp only [Hp.out] at he hoc
  subst he
  have hl := hoc.len
  have hl2 := hoc.lenU
  have B_4 := qh (below_to B_3.out hb)
  have C_4 := qh (C_3.out.up hb)
  have Q_4 := qh (Q_3.out.up hb)
  have Bc_4 := qh (Bc_3.out.below hb Bc_3.out.lt)
  have Br_4 := qh (Br_3.out.below hb Br_3.out.lt)
  have D_4 := qh (hoc.rd (by have := Hq.out.2; omega) Hq.out.1)
  clear hb yBc0 yBc1 yBr0 yBr1 yBr2 yBr3 yBr4 B_3 C_3 Q_3 Bc_3 Br_3
  clear hoc
  have al := alloc_up v4 (.cells #[.slice A4 m4 c4, .slice A5 m5 c5] 26)
  have B_5 := qh (below_to B_4.out al)
  have C_5 := qh (C_4.out.up al)
  have Q_5 := qh (Q_4.out.up al)
  have Bc_5 := qh (Bc_4.out.below al Bc_4.out.lt)
  have Br_5 := qh (Br_4.out.below al Br_4.out.lt)
  have D_5 := qh (D_4.out.up al)
  have hq := Blk.new v4 26 #[.slice A4 m4 c4, .slice A5 m5 c5]
  have Bo_5 := qh hq
  clear al hq B_4 C_4 Q_4 Bc_4 Br_4 D_4
  have yBc0 := Bc_5.out.cell 0
  have yBc1 := Bc_5.out.cell 1
  have yBr0 := Br_5.out.cell 0
  have yBr1 := Br_5.out.cell 1
  have yBr2 := Br_5.out.cell 2
  have yBr3 := Br_5.out.cell 3
  have yBr4 := Br_5.out.cell 4
  have yBo0 := Bo_5.out.cell 0
  have yBo1 := Bo_5.out.cell 1
  simp only [gT, gZ, gS] at yBc0 yBc1 yBr0 yBr1 yBr2 yBr3 yBr4 yBo0 yBo1
  go_wp2_with fail
  generalize v4.alloc (.cells #[.slice A4 m4 c4, .slice A5 m5 c5] 26) = z5 at B_5 C_5 Q_5 Bc_5 Br_5 D_5 Bo_5 yBc0 yBc1 yBr0 yBr1 yBr2 yBr3 yBr4 yBo0 yBo1 ⊢
  refine (requestDoS_any A1 A2 A3 m1 c1 m2 c2 m3 c3 room us ⟨kd, id, xs, gr, nm⟩ z5 C_5.out Hs.out.v (by omega) Q_5.out hc3).mono ?_; rintro e v6 ⟨A6, m6, c6, A7, m7, c7, he, hoc, hb⟩
  simp only [Hp.out] at he hoc
  subst he
  obtain ⟨k1, k2, _, _⟩ := hoc.len
  obtain rfl : m6 = m4 := by omega
  obtain rfl : m7 = m5 := by omega
  have B_6 := qh (below_to B_5.out hb)
  have C_6 := qh (C_5.out.up hb)
  have Q_6 := qh (Q_5.out.up hb)
  have Bc_6 := qh (Bc_5.out.below hb Bc_5.out.lt)
  have Br_6 := qh (Br_5.out.below hb Br_5.out.lt)
  have D_6 := qh (D_5.out.up hb)
  have Bo_6 := qh (Bo_5.out.below hb Bo_5.out.lt)
  have E_6 := qh (hoc.rd)
  clear hb yBc0 yBc1 yBr0 yBr1 yBr2 yBr3 yBr4 yBo0 yBo1 B_5 C_5 Q_5 Bc_5 Br_5 D_5 Bo_5
  clear hoc k1 k2 hl hl2
  have al := alloc_up v6 (.cells #[.slice A6 m6 c6, .slice A7 m7 c7] 26)
  have B_7 := qh (below_to B_6.out al)
  have C_7 := qh (C_6.out.up al)
  have Q_7 := qh (Q_6.out.up al)
  have Bc_7 := qh (Bc_6.out.below al Bc_6.out.lt)
  have Br_7 := qh (Br_6.out.below al Br_6.out.lt)
  have D_7 := qh (D_6.out.up al)
  have Bo_7 := qh (Bo_6.out.below al Bo_6.out.lt)
  have E_7 := qh (E_6.out.up al)
  have hq := Blk.new v6 26 #[.slice A6 m6 c6, .slice A7 m7 c7]
  have Bw_7 := qh hq
  clear al hq B_6 C_6 Q_6 Bc_6 Br_6 D_6 Bo_6 E_6
  have hne : (nn != nn) = false := by simp
  have yBc0 := Bc_7.out.cell 0
  have yBc1 := Bc_7.out.cell 1
  have yBr0 := Br_7.out.cell 0
  have yBr1 := Br_7.out.cell 1
  have yBr2 := Br_7.out.cell 2
  have yBr3 := Br_7.out.cell 3
  have yBr4 := Br_7.out.cell 4
  have yBo0 := Bo_7.out.cell 0
  have yBo1 := Bo_7.out.cell 1
  have yBw0 := Bw_7.out.cell 0
  have yBw1 := Bw_7.out.cell 1
  simp only [gT, gZ, gS] at yBc0 yBc1 yBr0 yBr1 yBr2 yBr3 yBr4 yBo0 yBo1 yBw0 yBw1
  go_wp2_with fail
  generalize v6.alloc (.cells #[.slice A6 m6 c6, .slice A7 m7 c7] 26) = z7 at B_7 C_7 Q_7 Bc_7 Br_7 D_7 Bo_7 E_7 Bw_7 yBc0 yBc1 yBr0 yBr1 yBr2 yBr3 yBr4 yBo0 yBo1 yBw0 yBw1 ⊢
  refine (sameCluster_any A4 A5 A6 A7 m6 c4 m7 c5 c6 c7 _ _ z7 D_7.out E_7.out).mono ?_; rintro e v8 ⟨rfl, hb⟩
  have B_8 := qh (below_to B_7.out hb)
  have C_8 := qh (C_7.out.up hb)
  have Q_8 := qh (Q_7.out.up hb)
  have Bc_8 := qh (Bc_7.out.below hb Bc_7.out.lt)
  have Br_8 := qh (Br_7.out.below hb Br_7.out.lt)
  have D_8 := qh (D_7.out.up hb)
  have Bo_8 := qh (Bo_7.out.below hb Bo_7.out.lt)
  have E_8 := qh (E_7.out.up hb)
  have Bw_8 := qh (Bw_7.out.below hb Bw_7.out.lt)
  clear hb yBc0 yBc1 yBr0 yBr1 yBr2 yBr3 yBr4 yBo0 yBo1 yBw0 yBw1 B_7 C_7 Q_7 Bc_7 Br_7 D_7 Bo_7 E_7 Bw_7
  by_cases h0 : nn = 0
  · have t0 : (nn == 0) = true := by rw [h0]; rfl
    have t1 : (nn != 0) = false := by rw [h0]; rfl
    by_cases h5 : kd = 5
    · have k0 : (kd == 5) = true := by rw [h5]; rfl
      have k1 : (kd != 5) = false := by rw [h5]; rfl
      have hok : clOk room us = true := by
        cases hk : clOk room us with
        | true => rfl
        | false => have := (req_bad (r := ⟨kd, id, xs, gr, nm⟩) hk).symm.trans Hp.out; injection this with _ this; injection this with _ this; omega
      have hr : rqOk ⟨kd, id, xs, gr, nm⟩ = true := by
        cases hk : rqOk ⟨kd, id, xs, gr, nm⟩ with
        | true => rfl
        | false => have := (req_refuse (r := ⟨kd, id, xs, gr, nm⟩) hok hk).symm.trans Hp.out; injection this with _ this; injection this with _ this; omega
      have e1 := (req_gather hok hr h5).symm.trans Hp.out
      injection e1 with e2 e1
      injection e1 with e3 e4
      subst e2
      have gf := gather_facts (room := room) (us := us) (most := nm) hok
      dsimp only at e3
      rw [e3] at gf
      obtain ⟨g1, g2, g3, g4⟩ := gf
      have Hok := qh hok
      have G1 := qh g1
      have G2 := qh g2
      have G3 := qh g3
      have G4 := qh g4
      clear e3 e4 hr hok h0 h5 g1 g2 g3 g4
      obtain rfl : m2 = m7 := by have := (C_8.out).b.len; have := (D_8.out).b.len; have := G3.out; omega
      obtain rfl : m1 = m6 := by have := (C_8.out).a.len; have := (D_8.out).a.len; omega
      have yBc0 := Bc_8.out.cell 0
      have yBc1 := Bc_8.out.cell 1
      have yBr0 := Br_8.out.cell 0
      have yBr1 := Br_8.out.cell 1
      have yBr2 := Br_8.out.cell 2
      have yBr3 := Br_8.out.cell 3
      have yBr4 := Br_8.out.cell 4
      have yBo0 := Bo_8.out.cell 0
      have yBo1 := Bo_8.out.cell 1
      have yBw0 := Bw_8.out.cell 0
      have yBw1 := Bw_8.out.cell 1
      simp only [gT, gZ, gS] at yBc0 yBc1 yBr0 yBr1 yBr2 yBr3 yBr4 yBo0 yBo1 yBw0 yBw1
      go_wp2_with fail
      clear yBc0 yBc1 yBr0 yBr1 yBr2 yBr3 yBr4 yBo0 yBo1 yBw0 yBw1
      go_loopw [9] (fun i wr => ∃ k : Nat, i = .int .i64 k ∧ k ≤ m2 ∧ Below v8.heap.size v8 wr) (fun i _ => m2 - (intOf i).toNat)
      case atStart => exact ⟨0, rfl, Nat.zero_le _, Below.refl _ _⟩
      case round =>
        obtain ⟨k, rfl, hk, hbel⟩ := hrel
        obtain ⟨wo, rfl⟩ : ∃ wo : World, wo = wr := ⟨_, rfl⟩
        have Hb := qh hbel
        clear hbel
        have yBc0 := (Bc_8.out.below Hb.out Bc_8.out.lt).cell 0
        have yBc1 := (Bc_8.out.below Hb.out Bc_8.out.lt).cell 1
        have yBo0 := (Bo_8.out.below Hb.out Bo_8.out.lt).cell 0
        have yBo1 := (Bo_8.out.below Hb.out Bo_8.out.lt).cell 1
        simp only [gT, gZ, gS] at yBc0 yBc1 yBo0 yBo1
        by_cases hlt : k < m2
        · obtain ⟨b1, o1, A1k, m1k, c1k, rfl, l1, hu0, hu1, hu2, hu3⟩ := (C_8.out).b.at_ hlt
          obtain ⟨b2, o2, A2k, m2k, c2k, rfl, l2, hv0, _, _, _⟩ := (D_8.out).b.at_ hlt
          have hg := G4.out k (by have := (C_8.out).b.len; omega)
          rw [hg.1] at hv0
          have Hg := qh hg.2
          have Hu3 := qh hu3
          have Hu1 := qh hu1
          clear hg hu3
          generalize (us[k]?.getD (false, [])).1 = op at *
          generalize (us[k]?.getD (false, [])).2 = ts at *
          have xu0 := (Hb.out.cell (p := ⟨b1, o1 + k * 2, none⟩) l1).trans hu0
          have xv0 := (Hb.out.cell (p := ⟨b2, o2 + k * 2, none⟩) l2).trans hv0
          clear hu0 hv0 hu1
          have eo : (op != op) = false := by simp
          have kk1 : (0 : Int) ≤ (k : Int) := by omega
          have kk2 : (k : Int) < (m2 : Int) := by omega
          have kk3 : 0 ≤ (k : Int) * 2 := by omega
          have hm1k := Hu3.out.le
          have hm2b := (C_8.out).b.le
          go_upto_region 11 with fail
          go_quiet (fail)
          go_wp2_with fail
          clear yBc0 yBc1 yBo0 yBo1 xu0 xv0
          go_loopw [10] (fun i wr => ∃ j : Nat, i = .int .i64 j ∧ j ≤ m1k ∧ Below v8.heap.size v8 wr) (fun i _ => m1k - (intOf i).toNat)
          case atStart => exact ⟨0, rfl, Nat.zero_le _, below_drewN Hb.out _⟩
          case round =>
            obtain ⟨j, rfl, hj, hbel2⟩ := hrel
            have Hb2 := qh hbel2
            clear hbel2
            have yBc0 := (Bc_8.out.below Hb2.out Bc_8.out.lt).cell 0
            have yBc1 := (Bc_8.out.below Hb2.out Bc_8.out.lt).cell 1
            have yBo0 := (Bo_8.out.below Hb2.out Bo_8.out.lt).cell 0
            have yBo1 := (Bo_8.out.below Hb2.out Bo_8.out.lt).cell 1
            simp only [gT, gZ, gS] at yBc0 yBc1 yBo0 yBo1
            have xu1 := (Hb2.out.cell (p := ⟨b1, o1 + k * 2 + 1, none⟩) l1).trans Hu1.out
            by_cases hjlt : j < m1k
            · obtain ⟨bt, ot, At, mt, ct, rfl, lt, ht0, _, _, _⟩ := Hu3.out.at_ hjlt
              have xt0 := (Hb2.out.cell (p := ⟨bt, ot + j * 2, none⟩) lt).trans ht0
              have Ht0 := qh ht0
              clear ht0
              have hmem : ts[j]?.getD (0, []) ∈ ts := by have := Hu3.out.len; rw [List.getElem?_eq_getElem (by omega)]; exact List.getElem_mem _
              obtain ⟨bb, hbk, hbm⟩ := Hg.out _ hmem
              obtain ⟨nw, hnw, hle⟩ := where_le (bs := uo.map (·.2)) (i := bb) (t := ts[j]?.getD (0, [])) (by rw [List.length_map]; have := G3.out; have := (C_8.out).b.len; omega) (by rw [snd_at]; exact hbm)
              have hcw : cwhereP room uo (ts[j]?.getD (0, [])).1 = (nw : Int) := by unfold cwhereP; rw [if_pos G1.out]; exact hnw
              clear hmem hbm hnw
              generalize (ts[j]?.getD (0, [])).1 = id9 at *
              have HD := qh (D_8.out.up Hb2.out)
              have jj1 : (0 : Int) ≤ (j : Int) := by omega
              have jj2 : (j : Int) < (m1k : Int) := by omega
              have jj3 : 0 ≤ (j : Int) * 2 := by omega
              have n1 : ¬ (nw : Int) < 0 := by omega
              have n2 : ¬ (k : Int) < (nw : Int) := by omega
              have Hcw := qh hcw
              clear hcw
              go_upto_region 16 with fail
              refine wp_region_mix (.take 0 (.take 1 (.take 2 (.take 3 (.take 4 (.take 5 (.take 6 (.take 7 (.take 8 (.take 9 (.take 10 (.bar 11 (.take 12 .nil))))))))))))) (fun w' => w'.cell? ⟨v4.heap.size, 0, none⟩ = some (.slice A4 m1 c4) ∧ w'.cell? ⟨v4.heap.size, 1, none⟩ = some (.slice (some ⟨b2, o2, none⟩) m2 c5) ∧ w'.cell? ⟨v1.heap.size, 0, none⟩ = some (.slice A1 m1 c1) ∧ w'.cell? ⟨v1.heap.size, 1, none⟩ = some (.slice (some ⟨b1, o1, none⟩) m2 c2) ∧ w'.cell? ⟨b1, o1 + k * 2 + 1, none⟩ = some (.slice (some ⟨bt, ot, none⟩) m1k c1k) ∧ w'.cell? ⟨bt, ot + j * 2, none⟩ = some (.int .i64 id9)) (by kernel_rfl) (by kernel_rfl) ⟨yBo0, yBo1, yBc0, yBc1, xu1, xt0⟩ (fun _ => ?_)
              clear yBc0 yBc1 yBo0 yBo1 xu1 xt0
              have HD2 := qh (D_8.out.up Hb2.out.drew)
              have Hb3 := qh Hb2.out.drew
              clear HD Hb2
              generalize wr.drew = u0 at HD2 Hb3 ⊢
              repeat ((first | refine wpMix_skip (by rfl) (by rfl) ?_ | (refine wpMix_take (v := ?_) (by rfl) (by rfl) (fun wS hSt => ?_) ?_; rotate_left; (focus ((try dsimp only at hSt); (go_simp <;> with_reducible rfl); done)))); (try simp only [Act.put, pS, pZ, pC]))
              (refine wpMix_bar (by rfl) (fun K hK => ?_); go_simp)
              refine (clusterWhereI_any A4 (some ⟨b2, o2, none⟩) m1 c4 m2 c5 room uo id9 u0 HD2.out Hq.out.1).mono ?_; rintro e u1 ⟨rfl, hb⟩
              rw [Hcw.out]
              have Hb4 := qh (below_to Hb3.out hb)
              have yBc0 := (Bc_8.out.below Hb4.out Bc_8.out.lt).cell 0
              have yBc1 := (Bc_8.out.below Hb4.out Bc_8.out.lt).cell 1
              have yBo0 := (Bo_8.out.below Hb4.out Bo_8.out.lt).cell 0
              have yBo1 := (Bo_8.out.below Hb4.out Bo_8.out.lt).cell 1
              simp only [gT, gZ, gS] at yBc0 yBc1 yBo0 yBo1
              skip
              clear yBc0 yBc1 yBo0 yBo1
              ((try dsimp only); refine nxK hK _ _ (⟨(Bo_8.out.below Hb4.out Bo_8.out.lt).cell 0, (Bo_8.out.below Hb4.out Bo_8.out.lt).cell 1, (Bc_8.out.below Hb4.out Bc_8.out.lt).cell 0, (Bc_8.out.below Hb4.out Bc_8.out.lt).cell 1, (Hb4.out.cell (p := ⟨b1, o1 + k * 2 + 1, none⟩) l1).trans Hu1.out, (Hb4.out.cell (p := ⟨bt, ot + j * 2, none⟩) lt).trans Ht0.out⟩) ?_; clear hK K; (try simp only [Act.put, pS, pZ, pC]))
              clear hb Hb3 HD2
              repeat ((first | refine wpMix_skip (by rfl) (by rfl) ?_ | (refine wpMix_take (v := ?_) (by rfl) (by rfl) (fun wS hSt => ?_) ?_; rotate_left; (focus ((try dsimp only at hSt); (go_simp <;> with_reducible rfl); done)))); (try simp only [Act.put, pS, pZ, pC]))
              refine wpMix_nil ?_
              go_wp2_with fail
              go_roundw
              case rel => exact ⟨j + 1, by go_num, by omega, Hb4.out⟩
              case measure => simp [intOf]; omega
            · obtain rfl : j = m1k := by omega
              go_wp2_with fail
              go_roundw
              case rel => exact ⟨k + 1, by go_num, by omega, Hb2.out⟩
              case measure => simp [intOf]; omega
        · obtain rfl : k = m2 := by omega
          have HC := qh (C_8.out.up Hb.out.drew)
          have HD := qh (D_8.out.up Hb.out.drew)
          have HB := qh (below_to B_8.out Hb.out.drew)
          have HBc := qh (Bc_8.out.below Hb.out.drew Bc_8.out.lt)
          have HBo := qh (Bo_8.out.below Hb.out.drew Bo_8.out.lt)
          go_upto_region 19 with fail
          refine wp_region_mix (.take 0 (.take 4 (.bar 1 (.take 2 (.fork 3 (.bar 5 (.take 6 (.bar 7 (.take 8 (.take 9 .nil))))) 5 (.take 6 (.fork 3 (.bar 7 (.take 8 (.take 9 .nil))) 7 (.bar 3 (.take 8 (.take 9 .nil)))))))))) (fun w' => w'.cell? ⟨v4.heap.size, 0, none⟩ = some (.slice A4 m1 c4) ∧ w'.cell? ⟨v4.heap.size, 1, none⟩ = some (.slice A5 k c5) ∧ w'.cell? ⟨v1.heap.size, 0, none⟩ = some (.slice A1 m1 c1) ∧ w'.cell? ⟨v1.heap.size, 1, none⟩ = some (.slice A2 k c2)) (by kernel_rfl) (by kernel_rfl) ⟨yBo0, yBo1, yBc0, yBc1⟩ (fun _ => ?_)
          clear yBc0 yBc1 yBo0 yBo1
          generalize wo.drew = u0 at HC HD HB HBc HBo ⊢
          repeat ((first | refine wpMix_skip (by rfl) (by rfl) ?_ | (refine wpMix_take (v := ?_) (by rfl) (by rfl) (fun wS hSt => ?_) ?_; rotate_left; (focus ((try dsimp only at hSt); (go_simp <;> with_reducible rfl); done)))); (try simp only [Act.put, pS, pZ, pC]))
          (refine wpMix_bar (by rfl) (fun K hK => ?_); go_simp)
          refine (clusterCountsI_any A4 A5 m1 c4 k c5 room uo u0 HD.out Hq.out.1).mono ?_; rintro e u1 ⟨A8, m8, c8, rfl, hown, hb⟩
          obtain rfl : m8 = 3 := by have := own_len hown; rw [counts_len G1.out] at this; omega
          obtain ⟨b8, o8, rfl, lb8, hx8⟩ := (own_rdI hown (own_le hown)).at_ (k := 2) (by omega)
          rw [counts2 G1.out, G2.out] at hx8
          have Hb1 := qh hb
          have Lc8 := own_cap' hown
          have heq : ((totalP us : Int) == (totalP us : Int)) = true := by simp
          ((try dsimp only); refine nxK hK _ _ (⟨(HBo.out.below Hb1.out HBo.out.lt).cell 0, (HBo.out.below Hb1.out HBo.out.lt).cell 1, (HBc.out.below Hb1.out HBc.out.lt).cell 0, (HBc.out.below Hb1.out HBc.out.lt).cell 1⟩) ?_; clear hK K; (try simp only [Act.put, pS, pZ, pC]))
          clear hown hb
          have HC1 := qh (HC.out.up Hb1.out)
          repeat ((first | refine wpMix_skip (by rfl) (by rfl) ?_ | (refine wpMix_take (v := ?_) (by rfl) (by rfl) (fun wS hSt => ?_) ?_; rotate_left; (focus ((try dsimp only at hSt); (go_simp <;> with_reducible rfl); done)))); (try simp only [Act.put, pS, pZ, pC]))
          refine wpMix_fork (by rfl) (by rfl) (fun K hK => ?_) (fun K hK => ?_)
          · go_simp
            ((try dsimp only); refine nxK hK _ _ (⟨(HBo.out.below Hb1.out HBo.out.lt).cell 0, (HBo.out.below Hb1.out HBo.out.lt).cell 1, (HBc.out.below Hb1.out HBc.out.lt).cell 0, (HBc.out.below Hb1.out HBc.out.lt).cell 1⟩) ?_; clear hK K; (try simp only [Act.put, pS, pZ, pC]))
            refine wpMix_bar (by rfl) (fun K hK => ?_)
            go_simp
            refine (clusterCountsI_any A1 A2 m1 c1 k c2 room us u1 HC1.out Hs.out).mono ?_; rintro e u2 ⟨A9, m9, c9, rfl, hown, hb⟩
            obtain rfl : m9 = 3 := by have := own_len hown; rw [counts_len Hok.out] at this; omega
            obtain ⟨b9, o9, rfl, lb9, hx9⟩ := (own_rdI hown (own_le hown)).at_ (k := 2) (by omega)
            rw [counts2 Hok.out] at hx9
            have Hb2 := qh (Hb1.out.trans (hb.mono Hb1.out.size))
            have Lc9 := own_cap' hown
            replace hx8 := (hb.cell (p := ⟨b8, o8 + 2, none⟩) lb8).trans hx8
            ((try dsimp only); refine nxK hK _ _ (⟨(HBo.out.below Hb2.out HBo.out.lt).cell 0, (HBo.out.below Hb2.out HBo.out.lt).cell 1, (HBc.out.below Hb2.out HBc.out.lt).cell 0, (HBc.out.below Hb2.out HBc.out.lt).cell 1⟩) ?_; clear hK K; (try simp only [Act.put, pS, pZ, pC]))
            clear hown hb
            repeat ((first | refine wpMix_skip (by rfl) (by rfl) ?_ | (refine wpMix_take (v := ?_) (by rfl) (by rfl) (fun wS hSt => ?_) ?_; rotate_left; (focus ((try dsimp only at hSt); (go_simp <;> with_reducible rfl); done)))); (try simp only [Act.put, pS, pZ, pC]))
            (refine wpMix_bar (by rfl) (fun K hK => ?_); go_simp)
            ((try dsimp only); refine nxK hK _ _ (⟨(HBo.out.below Hb2.out HBo.out.lt).cell 0, (HBo.out.below Hb2.out HBo.out.lt).cell 1, (HBc.out.below Hb2.out HBc.out.lt).cell 0, (HBc.out.below Hb2.out HBc.out.lt).cell 1⟩) ?_; clear hK K; (try simp only [Act.put, pS, pZ, pC]))
            repeat ((first | refine wpMix_skip (by rfl) (by rfl) ?_ | (refine wpMix_take (v := ?_) (by rfl) (by rfl) (fun wS hSt => ?_) ?_; rotate_left; (focus ((try dsimp only at hSt); (go_simp <;> with_reducible rfl); done)))); (try simp only [Act.put, pS, pZ, pC]))
            refine wpMix_nil ?_
            go_wp2_with fail
            go_ret
            exact ⟨rfl, below_to HB.out Hb2.out⟩
          · go_simp
            refine (clusterCountsI_any A1 A2 m1 c1 k c2 room us u1 HC1.out Hs.out).mono ?_; rintro e u2 ⟨A9, m9, c9, rfl, hown, hb⟩
            obtain rfl : m9 = 3 := by have := own_len hown; rw [counts_len Hok.out] at this; omega
            obtain ⟨b9, o9, rfl, lb9, hx9⟩ := (own_rdI hown (own_le hown)).at_ (k := 2) (by omega)
            rw [counts2 Hok.out] at hx9
            have Hb2 := qh (Hb1.out.trans (hb.mono Hb1.out.size))
            have Lc9 := own_cap' hown
            replace hx8 := (hb.cell (p := ⟨b8, o8 + 2, none⟩) lb8).trans hx8
            ((try dsimp only); refine nxK hK _ _ (⟨(HBo.out.below Hb2.out HBo.out.lt).cell 0, (HBo.out.below Hb2.out HBo.out.lt).cell 1, (HBc.out.below Hb2.out HBc.out.lt).cell 0, (HBc.out.below Hb2.out HBc.out.lt).cell 1⟩) ?_; clear hK K; (try simp only [Act.put, pS, pZ, pC]))
            clear hown hb
            repeat ((first | refine wpMix_skip (by rfl) (by rfl) ?_ | (refine wpMix_take (v := ?_) (by rfl) (by rfl) (fun wS hSt => ?_) ?_; rotate_left; (focus ((try dsimp only at hSt); (go_simp <;> with_reducible rfl); done)))); (try simp only [Act.put, pS, pZ, pC]))
            refine wpMix_fork (by rfl) (by rfl) (fun K hK => ?_) (fun K hK => ?_)
            · go_simp
              ((try dsimp only); refine nxK hK _ _ (⟨(HBo.out.below Hb2.out HBo.out.lt).cell 0, (HBo.out.below Hb2.out HBo.out.lt).cell 1, (HBc.out.below Hb2.out HBc.out.lt).cell 0, (HBc.out.below Hb2.out HBc.out.lt).cell 1⟩) ?_; clear hK K; (try simp only [Act.put, pS, pZ, pC]))
              (refine wpMix_bar (by rfl) (fun K hK => ?_); go_simp)
              ((try dsimp only); refine nxK hK _ _ (⟨(HBo.out.below Hb2.out HBo.out.lt).cell 0, (HBo.out.below Hb2.out HBo.out.lt).cell 1, (HBc.out.below Hb2.out HBc.out.lt).cell 0, (HBc.out.below Hb2.out HBc.out.lt).cell 1⟩) ?_; clear hK K; (try simp only [Act.put, pS, pZ, pC]))
              repeat ((first | refine wpMix_skip (by rfl) (by rfl) ?_ | (refine wpMix_take (v := ?_) (by rfl) (by rfl) (fun wS hSt => ?_) ?_; rotate_left; (focus ((try dsimp only at hSt); (go_simp <;> with_reducible rfl); done)))); (try simp only [Act.put, pS, pZ, pC]))
              refine wpMix_nil ?_
              go_wp2_with fail
              go_ret
              exact ⟨rfl, below_to HB.out Hb2.out⟩
            · go_simp
              ((try dsimp only); refine nxK hK _ _ (⟨(HBo.out.below Hb2.out HBo.out.lt).cell 0, (HBo.out.below Hb2.out HBo.out.lt).cell 1, (HBc.out.below Hb2.out HBc.out.lt).cell 0, (HBc.out.below Hb2.out HBc.out.lt).cell 1⟩) ?_; clear hK K; (try simp only [Act.put, pS, pZ, pC]))
              (refine wpMix_bar (by rfl) (fun K hK => ?_); go_simp)
              ((try dsimp only); refine nxK hK _ _ (⟨(HBo.out.below Hb2.out HBo.out.lt).cell 0, (HBo.out.below Hb2.out HBo.out.lt).cell 1, (HBc.out.below Hb2.out HBc.out.lt).cell 0, (HBc.out.below Hb2.out HBc.out.lt).cell 1⟩) ?_; clear hK K; (try simp only [Act.put, pS, pZ, pC]))
              repeat ((first | refine wpMix_skip (by rfl) (by rfl) ?_ | (refine wpMix_take (v := ?_) (by rfl) (by rfl) (fun wS hSt => ?_) ?_; rotate_left; (focus ((try dsimp only at hSt); (go_simp <;> with_reducible rfl); done)))); (try simp only [Act.put, pS, pZ, pC]))
              refine wpMix_nil ?_
              go_wp2_with fail
              go_ret
              exact ⟨rfl, below_to HB.out Hb2.out⟩
    · have k1 : (kd != 5) = true := by simpa using h5
      clear h5
      have yBc0 := Bc_8.out.cell 0
      have yBc1 := Bc_8.out.cell 1
      have yBr0 := Br_8.out.cell 0
      have yBr1 := Br_8.out.cell 1
      have yBr2 := Br_8.out.cell 2
      have yBr3 := Br_8.out.cell 3
      have yBr4 := Br_8.out.cell 4
      have yBo0 := Bo_8.out.cell 0
      have yBo1 := Bo_8.out.cell 1
      have yBw0 := Bw_8.out.cell 0
      have yBw1 := Bw_8.out.cell 1
      simp only [gT, gZ, gS] at yBc0 yBc1 yBr0 yBr1 yBr2 yBr3 yBr4 yBo0 yBo1 yBw0 yBw1
      go_wp2_with fail
      refine (sameCluster_any A4 A5 A6 A7 m6 c4 m7 c5 c6 c7 _ _ v8 D_8.out E_8.out).mono ?_; rintro e v9 ⟨rfl, hb⟩
      have B_9 := qh (below_to B_8.out hb)
      have C_9 := qh (C_8.out.up hb)
      have Q_9 := qh (Q_8.out.up hb)
      have Bc_9 := qh (Bc_8.out.below hb Bc_8.out.lt)
      have Br_9 := qh (Br_8.out.below hb Br_8.out.lt)
      have D_9 := qh (D_8.out.up hb)
      have Bo_9 := qh (Bo_8.out.below hb Bo_8.out.lt)
      have E_9 := qh (E_8.out.up hb)
      have Bw_9 := qh (Bw_8.out.below hb Bw_8.out.lt)
      clear hb yBc0 yBc1 yBr0 yBr1 yBr2 yBr3 yBr4 yBo0 yBo1 yBw0 yBw1 B_8 C_8 Q_8 Bc_8 Br_8 D_8 Bo_8 E_8 Bw_8
      have yBc0 := Bc_9.out.cell 0
      have yBc1 := Bc_9.out.cell 1
      have yBr0 := Br_9.out.cell 0
      have yBr1 := Br_9.out.cell 1
      have yBr2 := Br_9.out.cell 2
      have yBr3 := Br_9.out.cell 3
      have yBr4 := Br_9.out.cell 4
      have yBo0 := Bo_9.out.cell 0
      have yBo1 := Bo_9.out.cell 1
      have yBw0 := Bw_9.out.cell 0
      have yBw1 := Bw_9.out.cell 1
      simp only [gT, gZ, gS] at yBc0 yBc1 yBr0 yBr1 yBr2 yBr3 yBr4 yBo0 yBo1 yBw0 yBw1
      go_wp2_with fail
      go_ret
      exact ⟨rfl, B_9.out⟩
  · have t1 : (nn != 0) = true := by simpa using h0
    clear h0
    have yBc0 := Bc_8.out.cell 0
    have yBc1 := Bc_8.out.cell 1
    have yBr0 := Br_8.out.cell 0
    have yBr1 := Br_8.out.cell 1
    have yBr2 := Br_8.out.cell 2
    have yBr3 := Br_8.out.cell 3
    have yBr4 := Br_8.out.cell 4
    have yBo0 := Bo_8.out.cell 0
    have yBo1 := Bo_8.out.cell 1
    have yBw0 := Bw_8.out.cell 0
    have yBw1 := Bw_8.out.cell 1
    simp only [gT, gZ, gS] at yBc0 yBc1 yBr0 yBr1 yBr2 yBr3 yBr4 yBo0 yBo1 yBw0 yBw1
    go_wp2_with fail
    refine (sameCluster_any A4 A5 A6 A7 m6 c4 m7 c5 c6 c7 _ _ v8 D_8.out E_8.out).mono ?_; rintro e v9 ⟨rfl, hb⟩
    have B_9 := qh (below_to B_8.out hb)
    have C_9 := qh (C_8.out.up hb)
    have Q_9 := qh (Q_8.out.up hb)
    have Bc_9 := qh (Bc_8.out.below hb Bc_8.out.lt)
    have Br_9 := qh (Br_8.out.below hb Br_8.out.lt)
    have D_9 := qh (D_8.out.up hb)
    have Bo_9 := qh (Bo_8.out.below hb Bo_8.out.lt)
    have E_9 := qh (E_8.out.up hb)
    have Bw_9 := qh (Bw_8.out.below hb Bw_8.out.lt)
    clear hb yBc0 yBc1 yBr0 yBr1 yBr2 yBr3 yBr4 yBo0 yBo1 yBw0 yBw1 B_8 C_8 Q_8 Bc_8 Br_8 D_8 Bo_8 E_8 Bw_8
    have yBc0 := Bc_9.out.cell 0
    have yBc1 := Bc_9.out.cell 1
    have yBr0 := Br_9.out.cell 0
    have yBr1 := Br_9.out.cell 1
    have yBr2 := Br_9.out.cell 2
    have yBr3 := Br_9.out.cell 3
    have yBr4 := Br_9.out.cell 4
    have yBo0 := Bo_9.out.cell 0
    have yBo1 := Bo_9.out.cell 1
    have yBw0 := Bw_9.out.cell 0
    have yBw1 := Bw_9.out.cell 1
    simp only [gT, gZ, gS] at yBc0 yBc1 yBr0 yBr1 yBr2 yBr3 yBr4 yBo0 yBo1 yBw0 yBw1
    go_wp2_with fail
    go_ret
    exact ⟨rfl, B_9.out⟩
end Go.Proofs.YtlegpecjoaklnaaGreatDoor
