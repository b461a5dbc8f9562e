/- Walk: the law FnBatchNeed. (Printed by gen_balaws.py.) -/
import Derived.Test.YtjjnbbkdjimcoaaGreatDrawBa
import Derived.Test.YtjjnbbkdjimcoaaGreatJ14
import Derived.Test.YtjjnbbkdjimcoaaGreatBaKit
import Derived.Test.YtjjnbbkdjimcoaaGreatBatchU
import Derived.Test.YtjjnbbkdjimcoaaGreatBatchE
import Derived.Test.YtjjnbbkdjimcoaaGreatRqRows
import Derived.Deep.CutBlock
import Derived.Deep.DeepCutAuto
import Derived.Test.YtjjnbbkdjimcoaaGreatJ3
namespace Go.Proofs.YtjjnbbkdjimcoaaGreat
set_option linter.unusedVariables false
open Go Go.RowKit
attribute [local go_sem ↓] Go.wp_at_zero Go.wp_at_succ

set_option maxRecDepth 100000 in
set_option maxHeartbeats 6400000 in
theorem batchNeed_walk (A : Option Addr) (n c : Nat) (w : World) (h : RdU w w.heap.size A n) (hc : n ≤ c) (hcm : c ≤ 9223372036854775807) :
    Calls Tryz.prog 7 #[.slice A n c] w fun e w' => e = .returned (.bool true) ∧ Below w.heap.size w w' := by
  by_cases kn : 1048576 < n
  · go_enter Tryz.func7, Tryz.ntmps7
    go_wp2
    go_ret
    exact ⟨rfl, Below.refl _ _⟩
  go_enter Tryz.func7, Tryz.ntmps7
  go_wp2_with fail
  refine (drawBatchNeed_any A n c w h hc hcm).mono ?_; rintro e v1 ⟨A1, m1, c1, A2, m2, c2, room, us, At, nt, ct, ts, rfl, hcr, hs, hm1, hc1, hc2, ht, hnt, hct, hb⟩
  have B_1 := qh (hb)
  have C_1 := qh (hcr)
  have T_1 := qh (ht)
  clear hb
  have hlt := ht.len
  clear hcr ht h
  have Hs := qh hs
  have Hlt := qh hlt
  clear hs hlt
  have al := alloc_up v1 (.cells #[.slice A1 m1 c1, .slice A2 m2 c2] 26)
  have B_2 := qh (below_to B_1.out al)
  have C_2 := qh (C_1.out.up al)
  have T_2 := qh (T_1.out.up al)
  have hq := Blk.new v1 26 #[.slice A1 m1 c1, .slice A2 m2 c2]
  have Bc_2 := qh hq
  clear al hq B_1 C_1 T_1
  have yBc0 := Bc_2.out.cell 0
  have yBc1 := Bc_2.out.cell 1
  simp only [gT, gZ, gS] at yBc0 yBc1
  go_wp2_with fail
  generalize v1.alloc (.cells #[.slice A1 m1 c1, .slice A2 m2 c2] 26) = z2 at B_2 C_2 T_2 Bc_2 yBc0 yBc1 ⊢
  refine (batchNeedI_any A1 A2 At m1 c1 m2 c2 nt ct room us ts z2 C_2.out Hs.out.v T_2.out).mono ?_; rintro e v3 ⟨rfl, hb⟩
  have B_3 := qh (below_to B_2.out hb)
  have C_3 := qh (C_2.out.up hb)
  have T_3 := qh (T_2.out.up hb)
  have Bc_3 := qh (Bc_2.out.below hb Bc_2.out.lt)
  clear hb yBc0 yBc1 B_2 C_2 T_2 Bc_2
  have yBc0 := Bc_3.out.cell 0
  have yBc1 := Bc_3.out.cell 1
  simp only [gT, gZ, gS] at yBc0 yBc1
  go_wp2_with fail
  refine (batchNeedS_any A1 A2 At m1 c1 m2 c2 nt ct room us ts v3 C_3.out Hs.out.v T_3.out).mono ?_; rintro e v4 ⟨rfl, hb⟩
  have B_4 := qh (below_to B_3.out hb)
  have C_4 := qh (C_3.out.up hb)
  have T_4 := qh (T_3.out.up hb)
  have Bc_4 := qh (Bc_3.out.below hb Bc_3.out.lt)
  clear hb yBc0 yBc1 B_3 C_3 T_3 Bc_3
  have Hq := qh (fun h => need_law (room := room) (us := us) (ts := ts) h)
  generalize needP room us ts = q at Hq ⊢
  have hne : (q != q) = false := by simp
  have heq : (q == q) = true := by simp
  by_cases h0 : q < 0
  ·
    have q0 : q < 0 := h0
    have yBc0 := Bc_4.out.cell 0
    have yBc1 := Bc_4.out.cell 1
    simp only [gT, gZ, gS] at yBc0 yBc1
    go_wp2_with fail
    go_ret
    exact ⟨rfl, B_4.out⟩
  obtain ⟨k, hk, rfl, hok, hok1, hb1, hb2, hop⟩ := Hq.out h0
  have Hok := qh hok
  have HK := qh (show clOk room (batR room us ts (k : Int)).1 = true ∧ True from ⟨hok1, trivial⟩)
  have HB1 := qh hb1
  have HB2 := qh hb2
  have Hop := qh hop
  clear hok hok1 hb1 hb2 hop h0 Hq
  have wv : IntKind.i64.wrap ((k : Int) - 1) = (k : Int) - 1 := wr64 (by omega) (by omega)
  have h0 : ¬ (k : Int) < 0 := by omega
  have yBc0 := Bc_4.out.cell 0
  have yBc1 := Bc_4.out.cell 1
  simp only [gT, gZ, gS] at yBc0 yBc1
  go_wp2_with fail
  refine (batchAllI_any A1 A2 At m1 c1 m2 c2 nt ct (k : Int) room us ts v4 C_4.out Hs.out.v T_4.out).mono ?_; rintro e v5 ⟨A4, m6, c4, A5, m7, c5, he, hoc, hb⟩
  simp only [HB1.out] at he hoc
  subst he
  have B_5 := qh (below_to B_4.out hb)
  have C_5 := qh (C_4.out.up hb)
  have T_5 := qh (T_4.out.up hb)
  have Bc_5 := qh (Bc_4.out.below hb Bc_4.out.lt)
  have D_5 := qh (hoc.rd (by have := hoc.len; have := (clOk_facts Hok.out).1; omega) (clOk_sh HK.out.1))
  clear hb yBc0 yBc1 B_4 C_4 T_4 Bc_4
  clear hoc
  have al := alloc_up v5 (.cells #[.slice A4 m6 c4, .slice A5 m7 c5] 26)
  have B_6 := qh (below_to B_5.out al)
  have C_6 := qh (C_5.out.up al)
  have T_6 := qh (T_5.out.up al)
  have Bc_6 := qh (Bc_5.out.below al Bc_5.out.lt)
  have D_6 := qh (D_5.out.up al)
  have hq := Blk.new v5 26 #[.slice A4 m6 c4, .slice A5 m7 c5]
  have Bo_6 := qh hq
  clear al hq B_5 C_5 T_5 Bc_5 D_5
  have yBc0 := Bc_6.out.cell 0
  have yBc1 := Bc_6.out.cell 1
  have yBo0 := Bo_6.out.cell 0
  have yBo1 := Bo_6.out.cell 1
  simp only [gT, gZ, gS] at yBc0 yBc1 yBo0 yBo1
  go_wp2_with fail
  generalize v5.alloc (.cells #[.slice A4 m6 c4, .slice A5 m7 c5] 26) = z6 at B_6 C_6 T_6 Bc_6 D_6 Bo_6 yBc0 yBc1 yBo0 yBo1 ⊢
  refine (batchAllI_any A1 A2 At m1 c1 m2 c2 nt ct ((k : Int) - 1) room us ts z6 C_6.out Hs.out.v T_6.out).mono ?_; rintro e v7 ⟨A8, m8, c8, A9, m9, c9, he, hoc, hb⟩
  rw [HB2.out] at he
  subst he
  have B_7 := qh (below_to B_6.out hb)
  have C_7 := qh (C_6.out.up hb)
  have T_7 := qh (T_6.out.up hb)
  have Bc_7 := qh (Bc_6.out.below hb Bc_6.out.lt)
  have D_7 := qh (D_6.out.up hb)
  have Bo_7 := qh (Bo_6.out.below hb Bo_6.out.lt)
  clear hb yBc0 yBc1 yBo0 yBo1 B_6 C_6 T_6 Bc_6 D_6 Bo_6
  clear hoc
  have al := alloc_up v7 (.cells #[.slice A8 m8 c8, .slice A9 m9 c9] 26)
  have B_8 := qh (below_to B_7.out al)
  have C_8 := qh (C_7.out.up al)
  have T_8 := qh (T_7.out.up al)
  have Bc_8 := qh (Bc_7.out.below al Bc_7.out.lt)
  have D_8 := qh (D_7.out.up al)
  have Bo_8 := qh (Bo_7.out.below al Bo_7.out.lt)
  have hq := Blk.new v7 26 #[.slice A8 m8 c8, .slice A9 m9 c9]
  have By_8 := qh hq
  clear al hq B_7 C_7 T_7 Bc_7 D_7 Bo_7
  have yBc0 := Bc_8.out.cell 0
  have yBc1 := Bc_8.out.cell 1
  have yBo0 := Bo_8.out.cell 0
  have yBo1 := Bo_8.out.cell 1
  have yBy0 := By_8.out.cell 0
  have yBy1 := By_8.out.cell 1
  simp only [gT, gZ, gS] at yBc0 yBc1 yBo0 yBo1 yBy0 yBy1
  go_wp2_with fail
  generalize v7.alloc (.cells #[.slice A8 m8 c8, .slice A9 m9 c9] 26) = z8 at B_8 C_8 T_8 Bc_8 D_8 Bo_8 By_8 yBc0 yBc1 yBo0 yBo1 yBy0 yBy1 ⊢
  clear yBc0 yBc1 yBo0 yBo1 yBy0 yBy1
  have hsh := clOk_sh HK.out.1
  have Hsh := qh hsh
  clear hsh
  have hop := Hop.out
  generalize (batR room us ts (k : Int)).1 = uo at *
  have e9 : ((openN uo : Int) == (openN us : Int) + (k : Int)) = true := by simp; omega
  have wv2 : IntKind.i64.wrap ((openN us : Int) + (k : Int)) = (openN us : Int) + (k : Int) := wr64 (by omega) (by have := opn_le us; have := (clOk_facts Hok.out).2.2.1; omega)
  clear hop
  have yBc0 := Bc_8.out.cell 0
  have yBc1 := Bc_8.out.cell 1
  have yBo0 := Bo_8.out.cell 0
  have yBo1 := Bo_8.out.cell 1
  have yBy0 := By_8.out.cell 0
  have yBy1 := By_8.out.cell 1
  simp only [gT, gZ, gS] at yBc0 yBc1 yBo0 yBo1 yBy0 yBy1
  go_upto_region 10 with fail
  refine wp_region_mix (.take 0 (.take 1 (.take 2 (.take 3 (.take 4 (.take 5 (.take 6 (.take 10 (.take 14 (.bar 7 (.take 8 (.fork 9 (.bar 11 (.take 12 (.bar 13 (.take 15 (.take 16 (.take 17 (.take 18 .nil))))))) 11 (.take 12 (.fork 9 (.bar 13 (.take 15 (.take 16 (.take 17 (.take 18 .nil))))) 13 (.take 15 (.bar 9 (.take 16 (.take 17 (.take 18 .nil))))))))))))))))))) (fun w' => w'.cell? ⟨v5.heap.size, 0, none⟩ = some (.slice A4 m6 c4) ∧ w'.cell? ⟨v5.heap.size, 1, none⟩ = some (.slice A5 m7 c5) ∧ w'.cell? ⟨v1.heap.size, 0, none⟩ = some (.slice A1 m1 c1) ∧ w'.cell? ⟨v1.heap.size, 1, none⟩ = some (.slice A2 m2 c2)) (by kernel_rfl) (by kernel_rfl) ⟨yBo0, yBo1, yBc0, yBc1⟩ (fun _ => ?_)
  have hb := (Below.refl z8.heap.size z8).drew
  have B_9 := qh (below_to B_8.out hb)
  have C_9 := qh (C_8.out.up hb)
  have Bc_9 := qh (Bc_8.out.below hb Bc_8.out.lt)
  have D_9 := qh (D_8.out.up hb)
  have Bo_9 := qh (Bo_8.out.below hb Bo_8.out.lt)
  clear hb yBc0 yBc1 yBo0 yBo1 yBy0 yBy1 T_8 By_8 B_8 C_8 Bc_8 D_8 Bo_8
  generalize z8.drew = u0 at B_9 C_9 Bc_9 D_9 Bo_9 ⊢
  repeat ((first | refine wpMix_skip (by rfl) (by rfl) ?_ | (refine wpMix_take (v := ?_) (by rfl) (by rfl) (fun wS hSt => ?_) ?_; rotate_left; (focus ((try dsimp only at hSt); (go_simp <;> with_reducible rfl); done)))); (try simp only [Act.put, pS, pZ, pC]))
  (refine wpMix_bar (by rfl) (fun K hK => ?_); go_simp)
  refine (clusterCountsI_any A4 A5 m6 c4 m7 c5 room uo u0 D_9.out Hsh.out).mono ?_; rintro e ua ⟨Aqa, mqa, cqa, rfl, hown, hb⟩
  obtain rfl : mqa = 3 := by have := own_len hown; rw [counts_len HK.out.1] at this; omega
  obtain ⟨bqa, oqa, rfl, lqa, hqa⟩ := (own_rdI hown (own_le hown)).at_ (k := 0) (by omega)
  rw [counts0 HK.out.1] at hqa
  have Lqa := own_cap' hown
  simp only [Nat.add_zero] at hqa
  have B_10 := qh (below_to B_9.out hb)
  have C_10 := qh (C_9.out.up hb)
  have Bc_10 := qh (Bc_9.out.below hb Bc_9.out.lt)
  have D_10 := qh (D_9.out.up hb)
  have Bo_10 := qh (Bo_9.out.below hb Bo_9.out.lt)
  ((try dsimp only); refine nxK hK _ _ (⟨Bo_10.out.cell 0, Bo_10.out.cell 1, Bc_10.out.cell 0, Bc_10.out.cell 1⟩) ?_; clear hK K; (try simp only [Act.put, pS, pZ, pC]))
  clear hown hb B_9 C_9 Bc_9 D_9 Bo_9
  repeat ((first | refine wpMix_skip (by rfl) (by rfl) ?_ | (refine wpMix_take (v := ?_) (by rfl) (by rfl) (fun wS hSt => ?_) ?_; rotate_left; (focus ((try dsimp only at hSt); (go_simp <;> with_reducible rfl); done)))); (try simp only [Act.put, pS, pZ, pC]))
  refine wpMix_fork (by rfl) (by rfl) (fun K hK => ?_) (fun K hK => ?_)
  · go_simp
    ((try dsimp only); refine nxK hK _ _ (⟨Bo_10.out.cell 0, Bo_10.out.cell 1, Bc_10.out.cell 0, Bc_10.out.cell 1⟩) ?_; clear hK K; (try simp only [Act.put, pS, pZ, pC]))
    refine wpMix_bar (by rfl) (fun K hK => ?_)
    go_simp
    refine (clusterCountsI_any A1 A2 m1 c1 m2 c2 room us ua C_10.out Hs.out).mono ?_; rintro e ub ⟨Aqb, mqb, cqb, rfl, hown, hb⟩
    obtain rfl : mqb = 3 := by have := own_len hown; rw [counts_len Hok.out] at this; omega
    obtain ⟨bqb, oqb, rfl, lqb, hqb⟩ := (own_rdI hown (own_le hown)).at_ (k := 0) (by omega)
    rw [counts0 Hok.out] at hqb
    have Lqb := own_cap' hown
    simp only [Nat.add_zero] at hqb
    have B_11 := qh (below_to B_10.out hb)
    have C_11 := qh (C_10.out.up hb)
    have Bc_11 := qh (Bc_10.out.below hb Bc_10.out.lt)
    have D_11 := qh (D_10.out.up hb)
    have Bo_11 := qh (Bo_10.out.below hb Bo_10.out.lt)
    replace hqa := (hb.cell (p := ⟨bqa, oqa, none⟩) lqa).trans hqa
    ((try dsimp only); refine nxK hK _ _ (⟨Bo_11.out.cell 0, Bo_11.out.cell 1, Bc_11.out.cell 0, Bc_11.out.cell 1⟩) ?_; clear hK K; (try simp only [Act.put, pS, pZ, pC]))
    clear hown hb B_10 C_10 Bc_10 D_10 Bo_10
    repeat ((first | refine wpMix_skip (by rfl) (by rfl) ?_ | (refine wpMix_take (v := ?_) (by rfl) (by rfl) (fun wS hSt => ?_) ?_; rotate_left; (focus ((try dsimp only at hSt); (go_simp <;> with_reducible rfl); done)))); (try simp only [Act.put, pS, pZ, pC]))
    (refine wpMix_bar (by rfl) (fun K hK => ?_); go_simp)
    ((try dsimp only); refine nxK hK _ _ (⟨Bo_11.out.cell 0, Bo_11.out.cell 1, Bc_11.out.cell 0, Bc_11.out.cell 1⟩) ?_; clear hK K; (try simp only [Act.put, pS, pZ, pC]))
    repeat ((first | refine wpMix_skip (by rfl) (by rfl) ?_ | (refine wpMix_take (v := ?_) (by rfl) (by rfl) (fun wS hSt => ?_) ?_; rotate_left; (focus ((try dsimp only at hSt); (go_simp <;> with_reducible rfl); done)))); (try simp only [Act.put, pS, pZ, pC]))
    refine wpMix_nil ?_
    go_wp2_with fail
    go_ret
    exact ⟨rfl, B_11.out⟩
  · go_simp
    refine (clusterCountsI_any A1 A2 m1 c1 m2 c2 room us ua C_10.out Hs.out).mono ?_; rintro e ub ⟨Aqb, mqb, cqb, rfl, hown, hb⟩
    obtain rfl : mqb = 3 := by have := own_len hown; rw [counts_len Hok.out] at this; omega
    obtain ⟨bqb, oqb, rfl, lqb, hqb⟩ := (own_rdI hown (own_le hown)).at_ (k := 0) (by omega)
    rw [counts0 Hok.out] at hqb
    have Lqb := own_cap' hown
    simp only [Nat.add_zero] at hqb
    have B_11 := qh (below_to B_10.out hb)
    have C_11 := qh (C_10.out.up hb)
    have Bc_11 := qh (Bc_10.out.below hb Bc_10.out.lt)
    have D_11 := qh (D_10.out.up hb)
    have Bo_11 := qh (Bo_10.out.below hb Bo_10.out.lt)
    replace hqa := (hb.cell (p := ⟨bqa, oqa, none⟩) lqa).trans hqa
    ((try dsimp only); refine nxK hK _ _ (⟨Bo_11.out.cell 0, Bo_11.out.cell 1, Bc_11.out.cell 0, Bc_11.out.cell 1⟩) ?_; clear hK K; (try simp only [Act.put, pS, pZ, pC]))
    clear hown hb B_10 C_10 Bc_10 D_10 Bo_10
    repeat ((first | refine wpMix_skip (by rfl) (by rfl) ?_ | (refine wpMix_take (v := ?_) (by rfl) (by rfl) (fun wS hSt => ?_) ?_; rotate_left; (focus ((try dsimp only at hSt); (go_simp <;> with_reducible rfl); done)))); (try simp only [Act.put, pS, pZ, pC]))
    refine wpMix_fork (by rfl) (by rfl) (fun K hK => ?_) (fun K hK => ?_)
    · go_simp
      ((try dsimp only); refine nxK hK _ _ (⟨Bo_11.out.cell 0, Bo_11.out.cell 1, Bc_11.out.cell 0, Bc_11.out.cell 1⟩) ?_; clear hK K; (try simp only [Act.put, pS, pZ, pC]))
      (refine wpMix_bar (by rfl) (fun K hK => ?_); go_simp)
      ((try dsimp only); refine nxK hK _ _ (⟨Bo_11.out.cell 0, Bo_11.out.cell 1, Bc_11.out.cell 0, Bc_11.out.cell 1⟩) ?_; clear hK K; (try simp only [Act.put, pS, pZ, pC]))
      repeat ((first | refine wpMix_skip (by rfl) (by rfl) ?_ | (refine wpMix_take (v := ?_) (by rfl) (by rfl) (fun wS hSt => ?_) ?_; rotate_left; (focus ((try dsimp only at hSt); (go_simp <;> with_reducible rfl); done)))); (try simp only [Act.put, pS, pZ, pC]))
      refine wpMix_nil ?_
      go_wp2_with fail
      go_ret
      exact ⟨rfl, B_11.out⟩
    · go_simp
      ((try dsimp only); refine nxK hK _ _ (⟨Bo_11.out.cell 0, Bo_11.out.cell 1, Bc_11.out.cell 0, Bc_11.out.cell 1⟩) ?_; clear hK K; (try simp only [Act.put, pS, pZ, pC]))
      repeat ((first | refine wpMix_skip (by rfl) (by rfl) ?_ | (refine wpMix_take (v := ?_) (by rfl) (by rfl) (fun wS hSt => ?_) ?_; rotate_left; (focus ((try dsimp only at hSt); (go_simp <;> with_reducible rfl); done)))); (try simp only [Act.put, pS, pZ, pC]))
      (refine wpMix_bar (by rfl) (fun K hK => ?_); go_simp)
      ((try dsimp only); refine nxK hK _ _ (⟨Bo_11.out.cell 0, Bo_11.out.cell 1, Bc_11.out.cell 0, Bc_11.out.cell 1⟩) ?_; clear hK K; (try simp only [Act.put, pS, pZ, pC]))
      repeat ((first | refine wpMix_skip (by rfl) (by rfl) ?_ | (refine wpMix_take (v := ?_) (by rfl) (by rfl) (fun wS hSt => ?_) ?_; rotate_left; (focus ((try dsimp only at hSt); (go_simp <;> with_reducible rfl); done)))); (try simp only [Act.put, pS, pZ, pC]))
      refine wpMix_nil ?_
      go_wp2_with fail
      go_ret
      exact ⟨rfl, B_11.out⟩
end Go.Proofs.YtjjnbbkdjimcoaaGreat
