/- Walk: the exact law FnExactRequestDo. (Printed by gen_exrq.py.) -/
import Derived.Test.YtlegpecjoaklnaaGreatDoorExKit
import Derived.Deep.CutBlock
import Derived.Deep.DeepCutAuto
namespace Go.Proofs.YtlegpecjoaklnaaGreatDoor
set_option linter.unusedVariables false
open Go Go.RowKit
attribute [local go_sem ↓] Go.wp_at_zero Go.wp_at_succ

set_option maxRecDepth 100000 in
set_option maxHeartbeats 12800000 in
theorem exactRequestDo_walk (A1 A2 A3 : Option Addr) (n1 c1 n2 c2 n3 c3 : Nat) (room : List Int) (us : List Un) (kd id : Int) (xs : List Int) (gr : Bool) (nm : Int) (w : World) (h : RdC w A1 A2 n1 n2 room us) (hx : RdI w w.heap.size A3 n3 xs) (hc3 : n3 ≤ c3) :
    Calls Tryz.prog 13 #[.agg #[.slice A1 n1 c1, .slice A2 n2 c2], .agg #[.int .i64 kd, .int .i64 id, .slice A3 n3 c3, .bool gr, .int .i64 nm]] w fun e w' => e = .returned (.bool true) ∧ Below w.heap.size w w' := by
  have sz : (w.alloc (.cells #[.slice A1 n1 c1, .slice A2 n2 c2] 62)).heap.size = w.heap.size + 1 := World.size_alloc _ _
  have B_1 := qh ((alloc_up w (.cells #[.slice A1 n1 c1, .slice A2 n2 c2] 62)).alloc (by rw [sz]; omega) (.cells #[.int .i64 kd, .int .i64 id, .slice A3 n3 c3, .bool gr, .int .i64 nm] 65))
  have PC_1 := qh ((Blk.new w 62 #[.slice A1 n1 c1, .slice A2 n2 c2]).alloc (.cells #[.int .i64 kd, .int .i64 id, .slice A3 n3 c3, .bool gr, .int .i64 nm] 65))
  have hq := Blk.new (w.alloc (.cells #[.slice A1 n1 c1, .slice A2 n2 c2] 62)) 65 #[.int .i64 kd, .int .i64 id, .slice A3 n3 c3, .bool gr, .int .i64 nm]
  rw [sz] at hq
  have PR_1 := qh hq
  have Hl1 := qh h.a.len
  have Hl2 := qh h.b.len
  have Hl3 := qh hx.len
  have le1 := h.a.le
  have le2 := h.b.le
  have le3 := hx.le
  have Hh := qh h
  have Hx := qh hx
  obtain ⟨ro, uo, nn, hp⟩ : ∃ ro uo nn, reqP room us ⟨kd, id, xs, gr, nm⟩ = (ro, uo, nn) := ⟨_, _, _, rfl⟩
  have Hp := qh hp
  have hsm := reqP_sm (room := room) (us := us) ⟨kd, id, xs, gr, nm⟩
  have hq3 := (reqP_sh (room := room) (us := us) ⟨kd, id, xs, gr, nm⟩).2
  rw [hp] at hsm hq3
  dsimp only at hsm hq3
  have Hsm := qh hsm
  have Hq := qh (show ShU uo ∧ ro.length ≤ 3 from ⟨hsm.sh, hq3⟩)
  have hne : (nn != nn) = false := by simp
  clear h hx hq sz hp hsm hq3
  go_enter Tryz.func13, Tryz.ntmps13
  have yPC0 := PC_1.out.cell 0
  have yPC1 := PC_1.out.cell 1
  have yPR0 := PR_1.out.cell 0
  have yPR1 := PR_1.out.cell 1
  have yPR2 := PR_1.out.cell 2
  have yPR3 := PR_1.out.cell 3
  have yPR4 := PR_1.out.cell 4
  simp only [gT, gZ, gS] at yPC0 yPC1 yPR0 yPR1 yPR2 yPR3 yPR4
  go_wp2_with fail
  generalize (w.alloc (.cells #[.slice A1 n1 c1, .slice A2 n2 c2] 62)).alloc (.cells #[.int .i64 kd, .int .i64 id, .slice A3 n3 c3, .bool gr, .int .i64 nm] 65) = z1 at B_1 PC_1 PR_1 yPC0 yPC1 yPR0 yPR1 yPR2 yPR3 yPR4 ⊢
  refine (szCluster_any A1 A2 n1 c1 n2 c2 room us 1048576 z1 (Hh.out.up B_1.out) (by omega) (by omega)).mono ?_; rintro e v2 ⟨r1, rfl, hr1, hb⟩
  have B_2 := qh (below_to B_1.out hb)
  have PC_2 := qh (PC_1.out.below hb PC_1.out.lt)
  have PR_2 := qh (PR_1.out.below hb PR_1.out.lt)
  clear hb yPC0 yPC1 yPR0 yPR1 yPR2 yPR3 yPR4 B_1 PC_1 PR_1
  rcases hr1 with rfl | ⟨hr1, he1⟩
  · skip
    have yPC0 := PC_2.out.cell 0
    have yPC1 := PC_2.out.cell 1
    have yPR0 := PR_2.out.cell 0
    have yPR1 := PR_2.out.cell 1
    have yPR2 := PR_2.out.cell 2
    have yPR3 := PR_2.out.cell 3
    have yPR4 := PR_2.out.cell 4
    simp only [gT, gZ, gS] at yPC0 yPC1 yPR0 yPR1 yPR2 yPR3 yPR4
    go_wp2_with fail
    go_ret
    exact ⟨rfl, B_2.out⟩
  have hr1n : ¬ r1 < 0 := by omega
  have hr1m : r1 ≤ 1048576 := by omega
  have He1 := qh he1
  clear he1
  have yPC0 := PC_2.out.cell 0
  have yPC1 := PC_2.out.cell 1
  have yPR0 := PR_2.out.cell 0
  have yPR1 := PR_2.out.cell 1
  have yPR2 := PR_2.out.cell 2
  have yPR3 := PR_2.out.cell 3
  have yPR4 := PR_2.out.cell 4
  simp only [gT, gZ, gS] at yPC0 yPC1 yPR0 yPR1 yPR2 yPR3 yPR4
  go_wp2_with fail
  refine (szRequest_any A3 n3 c3 kd id gr nm r1 v2 hr1 hr1m le3).mono ?_; rintro e v3 ⟨r2, rfl, hr2, hb⟩
  have B_3 := qh (below_to B_2.out hb)
  have PC_3 := qh (PC_2.out.below hb PC_2.out.lt)
  have PR_3 := qh (PR_2.out.below hb PR_2.out.lt)
  clear hb yPC0 yPC1 yPR0 yPR1 yPR2 yPR3 yPR4 B_2 PC_2 PR_2
  rcases hr2 with rfl | ⟨hr2, he2⟩
  · skip
    have yPC0 := PC_3.out.cell 0
    have yPC1 := PC_3.out.cell 1
    have yPR0 := PR_3.out.cell 0
    have yPR1 := PR_3.out.cell 1
    have yPR2 := PR_3.out.cell 2
    have yPR3 := PR_3.out.cell 3
    have yPR4 := PR_3.out.cell 4
    simp only [gT, gZ, gS] at yPC0 yPC1 yPR0 yPR1 yPR2 yPR3 yPR4
    go_wp2_with fail
    go_ret
    exact ⟨rfl, B_3.out⟩
  have hr2n : ¬ r2 < 0 := by omega
  have Ht := qh (show n1 + totB (us.map (·.2)) ≤ 1048576 by have := He1.out; omega)
  have ln1 : n1 ≤ 1048576 := by have := Ht.out; omega
  have ln3 : n3 ≤ 1048576 := by omega
  have hfl := totB_flat (us.map (·.2))
  have hml : (us.map (·.2)).length = us.length := List.length_map _
  have Hv := qh (show ShV us from ⟨by have := Ht.out; omega, by have := Ht.out; omega⟩)
  have ln2 : n2 ≤ 1048576 := by have := Hv.out.1; have := Hl2.out; omega
  clear he2 hfl hml
  go_upto_region 8 with fail
  go_cut [6, 7] (fun s6 s7 wx => ∃ (gz : Nat) (A4 : Option Addr) (m4 c4 : Nat) (A5 : Option Addr) (m5 c5 : Nat), s6 = .pointer (some ⟨gz, 0, none⟩) ∧ s7 = .int .i64 nn ∧ Blk wx gz 26 #[.slice A4 m4 c4, .slice A5 m5 c5] ∧ RdC wx A4 A5 m4 m5 ro uo ∧ Below v3.heap.size v3 wx)
  case first =>
    have U0 := qh ((Below.refl v3.heap.size v3).drew)
    have HS := qh (fun w' (hb : Below v3.heap.size v3 w') => (⟨(PC_3.out.below hb PC_3.out.lt).cell 0, (PC_3.out.below hb PC_3.out.lt).cell 1, (PR_3.out.below hb PR_3.out.lt).cell 0, (PR_3.out.below hb PR_3.out.lt).cell 1, (PR_3.out.below hb PR_3.out.lt).cell 2, (PR_3.out.below hb PR_3.out.lt).cell 3, (PR_3.out.below hb PR_3.out.lt).cell 4⟩ : w'.cell? ⟨w.heap.size, 0, none⟩ = some (.slice A1 n1 c1) ∧ w'.cell? ⟨w.heap.size, 1, none⟩ = some (.slice A2 n2 c2) ∧ w'.cell? ⟨w.heap.size + 1, 0, none⟩ = some (.int .i64 kd) ∧ w'.cell? ⟨w.heap.size + 1, 1, none⟩ = some (.int .i64 id) ∧ w'.cell? ⟨w.heap.size + 1, 2, none⟩ = some (.slice A3 n3 c3) ∧ w'.cell? ⟨w.heap.size + 1, 3, none⟩ = some (.bool gr) ∧ w'.cell? ⟨w.heap.size + 1, 4, none⟩ = some (.int .i64 nm)))
    have K0 := HS.out _ U0.out
    refine wp_region_mix ((.take 0 (.take 2 (.fork 1 (.fork 3 (.fork 4 (.take 5 (.take 6 (.take 7 (.bar 8 (.bar 9 (.take 10 .nil)))))) 8 (.bar 4 (.take 5 (.take 6 (.take 7 (.bar 9 (.take 10 .nil))))))) 8 (.bar 3 (.bar 4 (.take 5 (.take 6 (.take 7 (.bar 9 (.take 10 .nil)))))))) 8 (.bar 1 (.bar 3 (.bar 4 (.take 5 (.take 6 (.take 7 (.bar 9 (.take 10 .nil)))))))))))) (fun w' => w'.cell? ⟨w.heap.size, 0, none⟩ = some (.slice A1 n1 c1) ∧ w'.cell? ⟨w.heap.size, 1, none⟩ = some (.slice A2 n2 c2) ∧ w'.cell? ⟨w.heap.size + 1, 0, none⟩ = some (.int .i64 kd) ∧ w'.cell? ⟨w.heap.size + 1, 1, none⟩ = some (.int .i64 id) ∧ w'.cell? ⟨w.heap.size + 1, 2, none⟩ = some (.slice A3 n3 c3) ∧ w'.cell? ⟨w.heap.size + 1, 3, none⟩ = some (.bool gr) ∧ w'.cell? ⟨w.heap.size + 1, 4, none⟩ = some (.int .i64 nm)) (by kernel_rfl) (by kernel_rfl) K0 (fun _ => ?_)
    clear K0
    generalize v3.drew = u0 at U0 ⊢
    repeat ((first | refine wpMix_skip (by rfl) (by rfl) ?_ | (refine wpMix_take (v := ?_) (by rfl) (by rfl) (fun wS hSt => ?_) ?_; rotate_left; (focus ((try dsimp only at hSt); (go_simp <;> with_reducible rfl); done)))); (try simp only [Act.put, pS, pZ, pC]))
    refine wpMix_fork (by rfl) (by rfl) (fun K hK => ?_) (fun K hK => ?_)
    · skip
      go_simp
      refine (toCluster_any A1 A2 n1 c1 n2 c2 room us u0 (((Hh.out.up B_3.out)).up U0.out) Ht.out).mono ?_; rintro e u1 ⟨g1, g2, rfl, o1, o2, hb⟩
      have HC := qh (show RdC u1 (some ⟨g1, 0, none⟩) (some ⟨g2, 0, none⟩) n1 n2 room us from ⟨o1.rd' Hl1.out (by omega), o2.rd Hl2.out (by omega)⟩)
      clear o1 o2
      have U1 := qh (U0.out.trans (hb.mono U0.out.size))
      ((try dsimp only); refine nxK hK _ _ (HS.out _ U1.out) ?_; clear hK K; (try simp only [Act.put, pS, pZ, pC]))
      clear hb
      refine wpMix_fork (by rfl) (by rfl) (fun K hK => ?_) (fun K hK => ?_)
      · skip
        go_simp
        refine (toRequest_any A3 n3 c3 kd id xs gr nm u1 (((Hx.out.up B_3.out)).up U1.out) (by omega)).mono ?_; rintro e u2 ⟨g3, rfl, o3, hb⟩
        have HN := qh (o3.rd' Hl3.out (by omega))
        clear o3
        replace HC := qh (HC.out.up hb)
        have U2 := qh (U1.out.trans (hb.mono U1.out.size))
        ((try dsimp only); refine nxK hK _ _ (HS.out _ U2.out) ?_; clear hK K; (try simp only [Act.put, pS, pZ, pC]))
        clear hb
        refine wpMix_fork (by rfl) (by rfl) (fun K hK => ?_) (fun K hK => ?_)
        · skip
          go_simp
          refine (requestDoS_any (some ⟨g1, 0, none⟩) (some ⟨g2, 0, none⟩) (some ⟨g3, 0, none⟩) n1 n1 n2 n2 n3 n3 room us ⟨kd, id, xs, gr, nm⟩ u2 HC.out Hv.out ln1 HN.out (Nat.le_refl _)).mono ?_; rintro e u3 ⟨A4, m4, c4, A5, m5, c5, he, hoc, hb⟩
          simp only [Hp.out] at he hoc
          subst he
          have HO := qh hoc
          clear hoc HC HN
          have U3 := qh (U2.out.trans (hb.mono U2.out.size))
          ((try dsimp only); refine nxK hK _ _ (HS.out _ U3.out) ?_; clear hK K; (try simp only [Act.put, pS, pZ, pC]))
          clear hb
          repeat ((first | refine wpMix_skip (by rfl) (by rfl) ?_ | (refine wpMix_take (v := ?_) (by rfl) (by rfl) (fun wS hSt => ?_) ?_; rotate_left; (focus ((try dsimp only at hSt); (go_simp <;> with_reducible rfl); done)))); (try simp only [Act.put, pS, pZ, pC]))
          refine wpMix_bar (by rfl) (fun K hK => ?_)
          go_simp
          have hb := alloc_up u3 (.cells #[.slice none 0 0, .slice none 0 0] 26)
          have U4 := qh (U3.out.trans (hb.mono U3.out.size))
          have ZZ := qh (Blk.new u3 26 #[.slice none 0 0, .slice none 0 0])
          have hgz : v3.heap.size ≤ u3.heap.size := U3.out.size
          replace HO := qh (HO.out.keepTU (KeepTU.up hb))
          ((try dsimp only); refine nxK hK _ _ (HS.out _ U4.out) ?_; clear hK K; (try simp only [Act.put, pS, pZ, pC]))
          generalize u3.heap.size = gz at ZZ hgz ⊢
          generalize u3.alloc (.cells #[.slice none 0 0, .slice none 0 0] 26) = u4 at U4 ZZ HO ⊢
          clear hb
          refine wpMix_bar (by rfl) (fun K hK => ?_)
          have x0 := ZZ.out.cell 0
          have x1 := ZZ.out.cell 1
          simp only [gT, gZ, gS] at x0 x1
          have x2 := ZZ.out.frozen 0
          have x3 := ZZ.out.frozen 1
          go_simp
          have KT := (KeepTU.set_ ZZ.out (by decide) (by decide) (by decide) 0 (.slice A4 m4 c4)).trans (KeepTU.set_ (ZZ.out.set_ 0 (.slice A4 m4 c4)) (by decide) (by decide) (by decide) 1 (.slice A5 m5 c5))
          have U5 := qh ((U4.out.setCell (p := ⟨gz, 0, none⟩) hgz (.slice A4 m4 c4)).setCell (p := ⟨gz, 1, none⟩) hgz (.slice A5 m5 c5))
          have RC := qh ((HO.out.keepTU KT).rd)
          have Z9 := qh (show Blk (World.setCell (World.setCell u4 ⟨gz, 0, none⟩ (.slice A4 m4 c4)) ⟨gz, 1, none⟩ (.slice A5 m5 c5)) gz 26 #[.slice A4 m4 c4, .slice A5 m5 c5] from (ZZ.out.set_ 0 (.slice A4 m4 c4)).set_ 1 (.slice A5 m5 c5))
          ((try dsimp only); refine nxK hK _ _ (HS.out _ U5.out) ?_; clear hK K; (try simp only [Act.put, pS, pZ, pC]))
          clear x0 x1 x2 x3 KT
          generalize (World.setCell (World.setCell u4 ⟨gz, 0, none⟩ (.slice A4 m4 c4)) ⟨gz, 1, none⟩ (.slice A5 m5 c5)) = u5 at U5 RC Z9 ⊢
          repeat ((first | refine wpMix_skip (by rfl) (by rfl) ?_ | (refine wpMix_take (v := ?_) (by rfl) (by rfl) (fun wS hSt => ?_) ?_; rotate_left; (focus ((try dsimp only at hSt); (go_simp <;> with_reducible rfl); done)))); (try simp only [Act.put, pS, pZ, pC]))
          refine wpMix_nil ?_
          go_wp2_with fail
          go_meet
          case rel => exact ⟨gz, A4, m4, c4, A5, m5, c5, rfl, rfl, Z9.out, RC.out, U5.out⟩
        · skip
          go_simp
          have hb := alloc_up u2 (.cells #[.slice none 0 0, .slice none 0 0] 26)
          have U3 := qh (U2.out.trans (hb.mono U2.out.size))
          have ZZ := qh (Blk.new u2 26 #[.slice none 0 0, .slice none 0 0])
          have hgz : v3.heap.size ≤ u2.heap.size := U2.out.size
          replace HC := qh (HC.out.up hb)
          replace HN := qh (HN.out.up hb)
          ((try dsimp only); refine nxK hK _ _ (HS.out _ U3.out) ?_; clear hK K; (try simp only [Act.put, pS, pZ, pC]))
          generalize u2.heap.size = gz at ZZ hgz ⊢
          generalize u2.alloc (.cells #[.slice none 0 0, .slice none 0 0] 26) = u3 at U3 ZZ HC HN ⊢
          clear hb
          refine wpMix_bar (by rfl) (fun K hK => ?_)
          go_simp
          refine (requestDoS_any (some ⟨g1, 0, none⟩) (some ⟨g2, 0, none⟩) (some ⟨g3, 0, none⟩) n1 n1 n2 n2 n3 n3 room us ⟨kd, id, xs, gr, nm⟩ u3 HC.out Hv.out ln1 HN.out (Nat.le_refl _)).mono ?_; rintro e u4 ⟨A4, m4, c4, A5, m5, c5, he, hoc, hb⟩
          simp only [Hp.out] at he hoc
          subst he
          have HO := qh hoc
          clear hoc HC HN
          replace ZZ := qh (ZZ.out.below hb ZZ.out.lt)
          have U4 := qh (U3.out.trans (hb.mono U3.out.size))
          ((try dsimp only); refine nxK hK _ _ (HS.out _ U4.out) ?_; clear hK K; (try simp only [Act.put, pS, pZ, pC]))
          clear hb
          repeat ((first | refine wpMix_skip (by rfl) (by rfl) ?_ | (refine wpMix_take (v := ?_) (by rfl) (by rfl) (fun wS hSt => ?_) ?_; rotate_left; (focus ((try dsimp only at hSt); (go_simp <;> with_reducible rfl); done)))); (try simp only [Act.put, pS, pZ, pC]))
          refine wpMix_bar (by rfl) (fun K hK => ?_)
          have x0 := ZZ.out.cell 0
          have x1 := ZZ.out.cell 1
          simp only [gT, gZ, gS] at x0 x1
          have x2 := ZZ.out.frozen 0
          have x3 := ZZ.out.frozen 1
          go_simp
          have KT := (KeepTU.set_ ZZ.out (by decide) (by decide) (by decide) 0 (.slice A4 m4 c4)).trans (KeepTU.set_ (ZZ.out.set_ 0 (.slice A4 m4 c4)) (by decide) (by decide) (by decide) 1 (.slice A5 m5 c5))
          have U5 := qh ((U4.out.setCell (p := ⟨gz, 0, none⟩) hgz (.slice A4 m4 c4)).setCell (p := ⟨gz, 1, none⟩) hgz (.slice A5 m5 c5))
          have RC := qh ((HO.out.keepTU KT).rd)
          have Z9 := qh (show Blk (World.setCell (World.setCell u4 ⟨gz, 0, none⟩ (.slice A4 m4 c4)) ⟨gz, 1, none⟩ (.slice A5 m5 c5)) gz 26 #[.slice A4 m4 c4, .slice A5 m5 c5] from (ZZ.out.set_ 0 (.slice A4 m4 c4)).set_ 1 (.slice A5 m5 c5))
          ((try dsimp only); refine nxK hK _ _ (HS.out _ U5.out) ?_; clear hK K; (try simp only [Act.put, pS, pZ, pC]))
          clear x0 x1 x2 x3 KT
          generalize (World.setCell (World.setCell u4 ⟨gz, 0, none⟩ (.slice A4 m4 c4)) ⟨gz, 1, none⟩ (.slice A5 m5 c5)) = u5 at U5 RC Z9 ⊢
          repeat ((first | refine wpMix_skip (by rfl) (by rfl) ?_ | (refine wpMix_take (v := ?_) (by rfl) (by rfl) (fun wS hSt => ?_) ?_; rotate_left; (focus ((try dsimp only at hSt); (go_simp <;> with_reducible rfl); done)))); (try simp only [Act.put, pS, pZ, pC]))
          refine wpMix_nil ?_
          go_wp2_with fail
          go_meet
          case rel => exact ⟨gz, A4, m4, c4, A5, m5, c5, rfl, rfl, Z9.out, RC.out, U5.out⟩
      · skip
        go_simp
        have hb := alloc_up u1 (.cells #[.slice none 0 0, .slice none 0 0] 26)
        have U2 := qh (U1.out.trans (hb.mono U1.out.size))
        have ZZ := qh (Blk.new u1 26 #[.slice none 0 0, .slice none 0 0])
        have hgz : v3.heap.size ≤ u1.heap.size := U1.out.size
        replace HC := qh (HC.out.up hb)
        ((try dsimp only); refine nxK hK _ _ (HS.out _ U2.out) ?_; clear hK K; (try simp only [Act.put, pS, pZ, pC]))
        generalize u1.heap.size = gz at ZZ hgz ⊢
        generalize u1.alloc (.cells #[.slice none 0 0, .slice none 0 0] 26) = u2 at U2 ZZ HC ⊢
        clear hb
        refine wpMix_bar (by rfl) (fun K hK => ?_)
        go_simp
        refine (toRequest_any A3 n3 c3 kd id xs gr nm u2 (((Hx.out.up B_3.out)).up U2.out) (by omega)).mono ?_; rintro e u3 ⟨g3, rfl, o3, hb⟩
        have HN := qh (o3.rd' Hl3.out (by omega))
        clear o3
        replace HC := qh (HC.out.up hb)
        replace ZZ := qh (ZZ.out.below hb ZZ.out.lt)
        have U3 := qh (U2.out.trans (hb.mono U2.out.size))
        ((try dsimp only); refine nxK hK _ _ (HS.out _ U3.out) ?_; clear hK K; (try simp only [Act.put, pS, pZ, pC]))
        clear hb
        refine wpMix_bar (by rfl) (fun K hK => ?_)
        go_simp
        refine (requestDoS_any (some ⟨g1, 0, none⟩) (some ⟨g2, 0, none⟩) (some ⟨g3, 0, none⟩) n1 n1 n2 n2 n3 n3 room us ⟨kd, id, xs, gr, nm⟩ u3 HC.out Hv.out ln1 HN.out (Nat.le_refl _)).mono ?_; rintro e u4 ⟨A4, m4, c4, A5, m5, c5, he, hoc, hb⟩
        simp only [Hp.out] at he hoc
        subst he
        have HO := qh hoc
        clear hoc HC HN
        replace ZZ := qh (ZZ.out.below hb ZZ.out.lt)
        have U4 := qh (U3.out.trans (hb.mono U3.out.size))
        ((try dsimp only); refine nxK hK _ _ (HS.out _ U4.out) ?_; clear hK K; (try simp only [Act.put, pS, pZ, pC]))
        clear hb
        repeat ((first | refine wpMix_skip (by rfl) (by rfl) ?_ | (refine wpMix_take (v := ?_) (by rfl) (by rfl) (fun wS hSt => ?_) ?_; rotate_left; (focus ((try dsimp only at hSt); (go_simp <;> with_reducible rfl); done)))); (try simp only [Act.put, pS, pZ, pC]))
        refine wpMix_bar (by rfl) (fun K hK => ?_)
        have x0 := ZZ.out.cell 0
        have x1 := ZZ.out.cell 1
        simp only [gT, gZ, gS] at x0 x1
        have x2 := ZZ.out.frozen 0
        have x3 := ZZ.out.frozen 1
        go_simp
        have KT := (KeepTU.set_ ZZ.out (by decide) (by decide) (by decide) 0 (.slice A4 m4 c4)).trans (KeepTU.set_ (ZZ.out.set_ 0 (.slice A4 m4 c4)) (by decide) (by decide) (by decide) 1 (.slice A5 m5 c5))
        have U5 := qh ((U4.out.setCell (p := ⟨gz, 0, none⟩) hgz (.slice A4 m4 c4)).setCell (p := ⟨gz, 1, none⟩) hgz (.slice A5 m5 c5))
        have RC := qh ((HO.out.keepTU KT).rd)
        have Z9 := qh (show Blk (World.setCell (World.setCell u4 ⟨gz, 0, none⟩ (.slice A4 m4 c4)) ⟨gz, 1, none⟩ (.slice A5 m5 c5)) gz 26 #[.slice A4 m4 c4, .slice A5 m5 c5] from (ZZ.out.set_ 0 (.slice A4 m4 c4)).set_ 1 (.slice A5 m5 c5))
        ((try dsimp only); refine nxK hK _ _ (HS.out _ U5.out) ?_; clear hK K; (try simp only [Act.put, pS, pZ, pC]))
        clear x0 x1 x2 x3 KT
        generalize (World.setCell (World.setCell u4 ⟨gz, 0, none⟩ (.slice A4 m4 c4)) ⟨gz, 1, none⟩ (.slice A5 m5 c5)) = u5 at U5 RC Z9 ⊢
        repeat ((first | refine wpMix_skip (by rfl) (by rfl) ?_ | (refine wpMix_take (v := ?_) (by rfl) (by rfl) (fun wS hSt => ?_) ?_; rotate_left; (focus ((try dsimp only at hSt); (go_simp <;> with_reducible rfl); done)))); (try simp only [Act.put, pS, pZ, pC]))
        refine wpMix_nil ?_
        go_wp2_with fail
        go_meet
        case rel => exact ⟨gz, A4, m4, c4, A5, m5, c5, rfl, rfl, Z9.out, RC.out, U5.out⟩
    · skip
      go_simp
      have hb := alloc_up u0 (.cells #[.slice none 0 0, .slice none 0 0] 26)
      have U1 := qh (U0.out.trans (hb.mono U0.out.size))
      have ZZ := qh (Blk.new u0 26 #[.slice none 0 0, .slice none 0 0])
      have hgz : v3.heap.size ≤ u0.heap.size := U0.out.size
      ((try dsimp only); refine nxK hK _ _ (HS.out _ U1.out) ?_; clear hK K; (try simp only [Act.put, pS, pZ, pC]))
      generalize u0.heap.size = gz at ZZ hgz ⊢
      generalize u0.alloc (.cells #[.slice none 0 0, .slice none 0 0] 26) = u1 at U1 ZZ  ⊢
      clear hb
      refine wpMix_bar (by rfl) (fun K hK => ?_)
      go_simp
      refine (toCluster_any A1 A2 n1 c1 n2 c2 room us u1 (((Hh.out.up B_3.out)).up U1.out) Ht.out).mono ?_; rintro e u2 ⟨g1, g2, rfl, o1, o2, hb⟩
      have HC := qh (show RdC u2 (some ⟨g1, 0, none⟩) (some ⟨g2, 0, none⟩) n1 n2 room us from ⟨o1.rd' Hl1.out (by omega), o2.rd Hl2.out (by omega)⟩)
      clear o1 o2
      replace ZZ := qh (ZZ.out.below hb ZZ.out.lt)
      have U2 := qh (U1.out.trans (hb.mono U1.out.size))
      ((try dsimp only); refine nxK hK _ _ (HS.out _ U2.out) ?_; clear hK K; (try simp only [Act.put, pS, pZ, pC]))
      clear hb
      refine wpMix_bar (by rfl) (fun K hK => ?_)
      go_simp
      refine (toRequest_any A3 n3 c3 kd id xs gr nm u2 (((Hx.out.up B_3.out)).up U2.out) (by omega)).mono ?_; rintro e u3 ⟨g3, rfl, o3, hb⟩
      have HN := qh (o3.rd' Hl3.out (by omega))
      clear o3
      replace HC := qh (HC.out.up hb)
      replace ZZ := qh (ZZ.out.below hb ZZ.out.lt)
      have U3 := qh (U2.out.trans (hb.mono U2.out.size))
      ((try dsimp only); refine nxK hK _ _ (HS.out _ U3.out) ?_; clear hK K; (try simp only [Act.put, pS, pZ, pC]))
      clear hb
      refine wpMix_bar (by rfl) (fun K hK => ?_)
      go_simp
      refine (requestDoS_any (some ⟨g1, 0, none⟩) (some ⟨g2, 0, none⟩) (some ⟨g3, 0, none⟩) n1 n1 n2 n2 n3 n3 room us ⟨kd, id, xs, gr, nm⟩ u3 HC.out Hv.out ln1 HN.out (Nat.le_refl _)).mono ?_; rintro e u4 ⟨A4, m4, c4, A5, m5, c5, he, hoc, hb⟩
      simp only [Hp.out] at he hoc
      subst he
      have HO := qh hoc
      clear hoc HC HN
      replace ZZ := qh (ZZ.out.below hb ZZ.out.lt)
      have U4 := qh (U3.out.trans (hb.mono U3.out.size))
      ((try dsimp only); refine nxK hK _ _ (HS.out _ U4.out) ?_; clear hK K; (try simp only [Act.put, pS, pZ, pC]))
      clear hb
      repeat ((first | refine wpMix_skip (by rfl) (by rfl) ?_ | (refine wpMix_take (v := ?_) (by rfl) (by rfl) (fun wS hSt => ?_) ?_; rotate_left; (focus ((try dsimp only at hSt); (go_simp <;> with_reducible rfl); done)))); (try simp only [Act.put, pS, pZ, pC]))
      refine wpMix_bar (by rfl) (fun K hK => ?_)
      have x0 := ZZ.out.cell 0
      have x1 := ZZ.out.cell 1
      simp only [gT, gZ, gS] at x0 x1
      have x2 := ZZ.out.frozen 0
      have x3 := ZZ.out.frozen 1
      go_simp
      have KT := (KeepTU.set_ ZZ.out (by decide) (by decide) (by decide) 0 (.slice A4 m4 c4)).trans (KeepTU.set_ (ZZ.out.set_ 0 (.slice A4 m4 c4)) (by decide) (by decide) (by decide) 1 (.slice A5 m5 c5))
      have U5 := qh ((U4.out.setCell (p := ⟨gz, 0, none⟩) hgz (.slice A4 m4 c4)).setCell (p := ⟨gz, 1, none⟩) hgz (.slice A5 m5 c5))
      have RC := qh ((HO.out.keepTU KT).rd)
      have Z9 := qh (show Blk (World.setCell (World.setCell u4 ⟨gz, 0, none⟩ (.slice A4 m4 c4)) ⟨gz, 1, none⟩ (.slice A5 m5 c5)) gz 26 #[.slice A4 m4 c4, .slice A5 m5 c5] from (ZZ.out.set_ 0 (.slice A4 m4 c4)).set_ 1 (.slice A5 m5 c5))
      ((try dsimp only); refine nxK hK _ _ (HS.out _ U5.out) ?_; clear hK K; (try simp only [Act.put, pS, pZ, pC]))
      clear x0 x1 x2 x3 KT
      generalize (World.setCell (World.setCell u4 ⟨gz, 0, none⟩ (.slice A4 m4 c4)) ⟨gz, 1, none⟩ (.slice A5 m5 c5)) = u5 at U5 RC Z9 ⊢
      repeat ((first | refine wpMix_skip (by rfl) (by rfl) ?_ | (refine wpMix_take (v := ?_) (by rfl) (by rfl) (fun wS hSt => ?_) ?_; rotate_left; (focus ((try dsimp only at hSt); (go_simp <;> with_reducible rfl); done)))); (try simp only [Act.put, pS, pZ, pC]))
      refine wpMix_nil ?_
      go_wp2_with fail
      go_meet
      case rel => exact ⟨gz, A4, m4, c4, A5, m5, c5, rfl, rfl, Z9.out, RC.out, U5.out⟩
  case rest =>
    obtain ⟨gw, Aw1, p1, cw1, Aw2, p2, cw2, rfl, rfl, hZ, hC, hB⟩ := hcut
    obtain ⟨w3, rfl⟩ : ∃ w3 : World, w3 = wc := ⟨_, rfl⟩
    have B_4 := qh (below_to B_3.out hB)
    have PC_4 := qh (PC_3.out.below hB PC_3.out.lt)
    have PR_4 := qh (PR_3.out.below hB PR_3.out.lt)
    have PW_4 := qh (hZ)
    have W_4 := qh (hC.toW)
    have lgw : gw < w3.heap.size := hZ.lt
    have lp1 : ro.length = p1 := hC.a.len
    have lp2 : uo.length = p2 := hC.b.len
    have Lp1 := qh lp1
    have Lp2 := qh lp2
    clear lp1 lp2
    have lw3 : w.heap.size + 1 < w3.heap.size := PR_4.out.lt
    clear hZ hC hB B_3 PC_3 PR_3
    have yPC0 := PC_4.out.cell 0
    have yPC1 := PC_4.out.cell 1
    have yPR0 := PR_4.out.cell 0
    have yPR1 := PR_4.out.cell 1
    have yPR2 := PR_4.out.cell 2
    have yPR3 := PR_4.out.cell 3
    have yPR4 := PR_4.out.cell 4
    have yPW0 := PW_4.out.cell 0
    have yPW1 := PW_4.out.cell 1
    simp only [gT, gZ, gS] at yPC0 yPC1 yPR0 yPR1 yPR2 yPR3 yPR4 yPW0 yPW1
    go_wp2_with fail
    refine (toCluster_any A1 A2 n1 c1 n2 c2 room us w3 (Hh.out.up B_4.out) Ht.out).mono ?_; rintro e v5 ⟨g1, g2, rfl, o1, o2, hb⟩
    have B_5 := qh (below_to B_4.out hb)
    have PC_5 := qh (PC_4.out.below hb PC_4.out.lt)
    have PR_5 := qh (PR_4.out.below hb PR_4.out.lt)
    have PW_5 := qh (PW_4.out.below hb PW_4.out.lt)
    have W_5 := qh (W_4.out.up hb)
    have XI_5 := qh (Hl1.out ▸ o1.sw)
    have XN_5 := qh (Hl2.out ▸ o2.sw (by have := Ht.out; omega))
    have M_5 := qh (show RdC v5 (some ⟨g1, 0, none⟩) (some ⟨g2, 0, none⟩) n1 n2 room us from ⟨o1.rd' Hl1.out (by omega), o2.rd Hl2.out (by omega)⟩)
    clear hb yPC0 yPC1 yPR0 yPR1 yPR2 yPR3 yPR4 yPW0 yPW1 B_4 PC_4 PR_4 PW_4 W_4
    have l34 : w3.heap.size ≤ v5.heap.size := by have := o1.1; have := o1.2.lt; omega
    clear o1 o2
    have al := alloc_up v5 (.cells #[.slice (some ⟨g1, 0, none⟩) n1 n1, .slice (some ⟨g2, 0, none⟩) n2 n2] 26)
    have B_6 := qh (below_to B_5.out al)
    have PC_6 := qh (PC_5.out.below al PC_5.out.lt)
    have PR_6 := qh (PR_5.out.below al PR_5.out.lt)
    have PW_6 := qh (PW_5.out.below al PW_5.out.lt)
    have W_6 := qh (W_5.out.up al)
    have XI_6 := qh (XI_5.out.up al)
    have XN_6 := qh (XN_5.out.up al)
    have M_6 := qh (M_5.out.up al)
    have hq := Blk.new v5 26 #[.slice (some ⟨g1, 0, none⟩) n1 n1, .slice (some ⟨g2, 0, none⟩) n2 n2]
    have Q0_6 := qh hq
    clear al hq B_5 PC_5 PR_5 PW_5 W_5 XI_5 XN_5 M_5
    have yPC0 := PC_6.out.cell 0
    have yPC1 := PC_6.out.cell 1
    have yPR0 := PR_6.out.cell 0
    have yPR1 := PR_6.out.cell 1
    have yPR2 := PR_6.out.cell 2
    have yPR3 := PR_6.out.cell 3
    have yPR4 := PR_6.out.cell 4
    have yPW0 := PW_6.out.cell 0
    have yPW1 := PW_6.out.cell 1
    have yQ00 := Q0_6.out.cell 0
    have yQ01 := Q0_6.out.cell 1
    simp only [gT, gZ, gS] at yPC0 yPC1 yPR0 yPR1 yPR2 yPR3 yPR4 yPW0 yPW1 yQ00 yQ01
    go_wp2_with fail
    generalize v5.alloc (.cells #[.slice (some ⟨g1, 0, none⟩) n1 n1, .slice (some ⟨g2, 0, none⟩) n2 n2] 26) = z6 at B_6 PC_6 PR_6 PW_6 W_6 XI_6 XN_6 M_6 Q0_6 yPC0 yPC1 yPR0 yPR1 yPR2 yPR3 yPR4 yPW0 yPW1 yQ00 yQ01 ⊢
    refine (toRequest_any A3 n3 c3 kd id xs gr nm z6 (Hx.out.up B_6.out) ln3).mono ?_; rintro e v7 ⟨g3, rfl, o3, hb⟩
    have l56 := Q0_6.out.lt
    have B_7 := qh (below_to B_6.out hb)
    have PC_7 := qh (PC_6.out.below hb PC_6.out.lt)
    have PR_7 := qh (PR_6.out.below hb PR_6.out.lt)
    have PW_7 := qh (PW_6.out.below hb PW_6.out.lt)
    have W_7 := qh (W_6.out.up hb)
    have XI_7 := qh (XI_6.out.up hb)
    have XN_7 := qh (XN_6.out.up hb)
    have M_7 := qh (M_6.out.up hb)
    have Q0_7 := qh (Q0_6.out.below hb Q0_6.out.lt)
    have XR_7 := qh (Hl3.out ▸ o3.sw)
    have N_7 := qh (o3.rd' Hl3.out (by omega))
    clear hb yPC0 yPC1 yPR0 yPR1 yPR2 yPR3 yPR4 yPW0 yPW1 yQ00 yQ01 B_6 PC_6 PR_6 PW_6 W_6 XI_6 XN_6 M_6 Q0_6
    have l5 : z6.heap.size ≤ v7.heap.size := by have := o3.1; have := o3.2.lt; omega
    clear o3
    have al := alloc_up v7 (.cells #[.int .i64 kd, .int .i64 id, .slice (some ⟨g3, 0, none⟩) n3 n3, .bool gr, .int .i64 nm] 35)
    have B_8 := qh (below_to B_7.out al)
    have PC_8 := qh (PC_7.out.below al PC_7.out.lt)
    have PR_8 := qh (PR_7.out.below al PR_7.out.lt)
    have PW_8 := qh (PW_7.out.below al PW_7.out.lt)
    have W_8 := qh (W_7.out.up al)
    have XI_8 := qh (XI_7.out.up al)
    have XN_8 := qh (XN_7.out.up al)
    have M_8 := qh (M_7.out.up al)
    have Q0_8 := qh (Q0_7.out.below al Q0_7.out.lt)
    have XR_8 := qh (XR_7.out.up al)
    have N_8 := qh (N_7.out.up al)
    have hq := Blk.new v7 35 #[.int .i64 kd, .int .i64 id, .slice (some ⟨g3, 0, none⟩) n3 n3, .bool gr, .int .i64 nm]
    have Q1_8 := qh hq
    clear al hq B_7 PC_7 PR_7 PW_7 W_7 XI_7 XN_7 M_7 Q0_7 XR_7 N_7
    have yPC0 := PC_8.out.cell 0
    have yPC1 := PC_8.out.cell 1
    have yPR0 := PR_8.out.cell 0
    have yPR1 := PR_8.out.cell 1
    have yPR2 := PR_8.out.cell 2
    have yPR3 := PR_8.out.cell 3
    have yPR4 := PR_8.out.cell 4
    have yPW0 := PW_8.out.cell 0
    have yPW1 := PW_8.out.cell 1
    have yQ00 := Q0_8.out.cell 0
    have yQ01 := Q0_8.out.cell 1
    have yQ10 := Q1_8.out.cell 0
    have yQ11 := Q1_8.out.cell 1
    have yQ12 := Q1_8.out.cell 2
    have yQ13 := Q1_8.out.cell 3
    have yQ14 := Q1_8.out.cell 4
    simp only [gT, gZ, gS] at yPC0 yPC1 yPR0 yPR1 yPR2 yPR3 yPR4 yPW0 yPW1 yQ00 yQ01 yQ10 yQ11 yQ12 yQ13 yQ14
    go_wp2_with fail
    generalize v7.alloc (.cells #[.int .i64 kd, .int .i64 id, .slice (some ⟨g3, 0, none⟩) n3 n3, .bool gr, .int .i64 nm] 35) = z8 at B_8 PC_8 PR_8 PW_8 W_8 XI_8 XN_8 M_8 Q0_8 XR_8 N_8 Q1_8 yPC0 yPC1 yPR0 yPR1 yPR2 yPR3 yPR4 yPW0 yPW1 yQ00 yQ01 yQ10 yQ11 yQ12 yQ13 yQ14 ⊢
    refine (requestDoI_any (some ⟨g1, 0, none⟩) (some ⟨g2, 0, none⟩) (some ⟨g3, 0, none⟩) n1 n1 n2 n2 n3 n3 room us ⟨kd, id, xs, gr, nm⟩ z8 M_8.out Hv.out N_8.out (Nat.le_refl _)).mono ?_; rintro e v9 ⟨Ag1, m1, cg1, Ag2, m2, cg2, he, hoc, hb⟩
    simp only [Hp.out] at he hoc
    subst he
    obtain rfl : m1 = p1 := by have := hoc.len; have := Lp1.out; omega
    obtain rfl : m2 = p2 := by have := hoc.lenU; have := Lp2.out; omega
    have hbs := hb.size
    have l78 := Q1_8.out.lt
    have B_9 := qh (below_to B_8.out hb)
    have PC_9 := qh (PC_8.out.below hb PC_8.out.lt)
    have PR_9 := qh (PR_8.out.below hb PR_8.out.lt)
    have PW_9 := qh (PW_8.out.below hb PW_8.out.lt)
    have W_9 := qh (W_8.out.up hb)
    have XI_9 := qh (XI_8.out.up hb)
    have XN_9 := qh (XN_8.out.up hb)
    have M_9 := qh (M_8.out.up hb)
    have Q0_9 := qh (Q0_8.out.below hb Q0_8.out.lt)
    have XR_9 := qh (XR_8.out.up hb)
    have N_9 := qh (N_8.out.up hb)
    have Q1_9 := qh (Q1_8.out.below hb Q1_8.out.lt)
    have O_9 := qh (OwW.mk hoc hbs)
    clear hb yPC0 yPC1 yPR0 yPR1 yPR2 yPR3 yPR4 yPW0 yPW1 yQ00 yQ01 yQ10 yQ11 yQ12 yQ13 yQ14 B_8 PC_8 PR_8 PW_8 W_8 XI_8 XN_8 M_8 Q0_8 XR_8 N_8 Q1_8
    clear hoc
    have al := alloc_up v9 (.cells #[.slice Ag1 m1 cg1, .slice Ag2 m2 cg2] 26)
    have B_10 := qh (below_to B_9.out al)
    have PC_10 := qh (PC_9.out.below al PC_9.out.lt)
    have PR_10 := qh (PR_9.out.below al PR_9.out.lt)
    have PW_10 := qh (PW_9.out.below al PW_9.out.lt)
    have W_10 := qh (W_9.out.up al)
    have XI_10 := qh (XI_9.out.up al)
    have XN_10 := qh (XN_9.out.up al)
    have M_10 := qh (M_9.out.up al)
    have Q0_10 := qh (Q0_9.out.below al Q0_9.out.lt)
    have XR_10 := qh (XR_9.out.up al)
    have N_10 := qh (N_9.out.up al)
    have Q1_10 := qh (Q1_9.out.below al Q1_9.out.lt)
    have O_10 := qh (O_9.out.up al)
    have hq := Blk.new v9 26 #[.slice Ag1 m1 cg1, .slice Ag2 m2 cg2]
    have PG_10 := qh hq
    clear al hq B_9 PC_9 PR_9 PW_9 W_9 XI_9 XN_9 M_9 Q0_9 XR_9 N_9 Q1_9 O_9
    have hp3 : m1 ≤ 3 := by have := Lp1.out; have := Hq.out.2; omega
    have yPC0 := PC_10.out.cell 0
    have yPC1 := PC_10.out.cell 1
    have yPR0 := PR_10.out.cell 0
    have yPR1 := PR_10.out.cell 1
    have yPR2 := PR_10.out.cell 2
    have yPR3 := PR_10.out.cell 3
    have yPR4 := PR_10.out.cell 4
    have yPW0 := PW_10.out.cell 0
    have yPW1 := PW_10.out.cell 1
    have yQ00 := Q0_10.out.cell 0
    have yQ01 := Q0_10.out.cell 1
    have yQ10 := Q1_10.out.cell 0
    have yQ11 := Q1_10.out.cell 1
    have yQ12 := Q1_10.out.cell 2
    have yQ13 := Q1_10.out.cell 3
    have yQ14 := Q1_10.out.cell 4
    have yPG0 := PG_10.out.cell 0
    have yPG1 := PG_10.out.cell 1
    simp only [gT, gZ, gS] at yPC0 yPC1 yPR0 yPR1 yPR2 yPR3 yPR4 yPW0 yPW1 yQ00 yQ01 yQ10 yQ11 yQ12 yQ13 yQ14 yPG0 yPG1
    go_wp2_with fail
    generalize v9.alloc (.cells #[.slice Ag1 m1 cg1, .slice Ag2 m2 cg2] 26) = z10 at B_10 PC_10 PR_10 PW_10 W_10 XI_10 XN_10 M_10 Q0_10 XR_10 N_10 Q1_10 O_10 PG_10 yPC0 yPC1 yPR0 yPR1 yPR2 yPR3 yPR4 yPW0 yPW1 yQ00 yQ01 yQ10 yQ11 yQ12 yQ13 yQ14 yPG0 yPG1 ⊢
    refine (eqCluster_any Ag1 Ag2 Aw1 Aw2 m1 m2 cg1 cg2 cw1 cw2 ro uo z10 (O_10.out.o.rd (by omega) Hq.out.1) W_10.out.rd).mono ?_; rintro e v11 ⟨rfl, hb⟩
    have B_11 := qh (below_to B_10.out hb)
    have PC_11 := qh (PC_10.out.below hb PC_10.out.lt)
    have PR_11 := qh (PR_10.out.below hb PR_10.out.lt)
    have PW_11 := qh (PW_10.out.below hb PW_10.out.lt)
    have W_11 := qh (W_10.out.up hb)
    have XI_11 := qh (XI_10.out.up hb)
    have XN_11 := qh (XN_10.out.up hb)
    have M_11 := qh (M_10.out.up hb)
    have Q0_11 := qh (Q0_10.out.below hb Q0_10.out.lt)
    have XR_11 := qh (XR_10.out.up hb)
    have N_11 := qh (N_10.out.up hb)
    have Q1_11 := qh (Q1_10.out.below hb Q1_10.out.lt)
    have O_11 := qh (O_10.out.up hb)
    have PG_11 := qh (PG_10.out.below hb PG_10.out.lt)
    clear hb yPC0 yPC1 yPR0 yPR1 yPR2 yPR3 yPR4 yPW0 yPW1 yQ00 yQ01 yQ10 yQ11 yQ12 yQ13 yQ14 yPG0 yPG1 B_10 PC_10 PR_10 PW_10 W_10 XI_10 XN_10 M_10 Q0_10 XR_10 N_10 Q1_10 O_10 PG_10
    go_upto_region 14 with fail
    have U0 := (Below.refl v11.heap.size v11).drew
    have B_12 := qh (below_to B_11.out U0)
    have PC_12 := qh (PC_11.out.below U0 PC_11.out.lt)
    have PR_12 := qh (PR_11.out.below U0 PR_11.out.lt)
    have PW_12 := qh (PW_11.out.below U0 PW_11.out.lt)
    have W_12 := qh (W_11.out.up U0)
    have XI_12 := qh (XI_11.out.up U0)
    have XN_12 := qh (XN_11.out.up U0)
    have M_12 := qh (M_11.out.up U0)
    have Q0_12 := qh (Q0_11.out.below U0 Q0_11.out.lt)
    have XR_12 := qh (XR_11.out.up U0)
    have N_12 := qh (N_11.out.up U0)
    have Q1_12 := qh (Q1_11.out.below U0 Q1_11.out.lt)
    have O_12 := qh (O_11.out.up U0)
    have PG_12 := qh (PG_11.out.below U0 PG_11.out.lt)
    have K0 : v11.drew.cell? ⟨v5.heap.size, 0, none⟩ = some (.slice (some ⟨g1, 0, none⟩) n1 n1) ∧ v11.drew.cell? ⟨v5.heap.size, 1, none⟩ = some (.slice (some ⟨g2, 0, none⟩) n2 n2) ∧ v11.drew.cell? ⟨w.heap.size, 0, none⟩ = some (.slice A1 n1 c1) ∧ v11.drew.cell? ⟨w.heap.size, 1, none⟩ = some (.slice A2 n2 c2) := ⟨Q0_12.out.cell 0, Q0_12.out.cell 1, PC_12.out.cell 0, PC_12.out.cell 1⟩
    refine wp_region_mix (.take 0 (.take 1 (.bar 2 (.bar 3 (.take 4 .nil))))) (fun w' => w'.cell? ⟨v5.heap.size, 0, none⟩ = some (.slice (some ⟨g1, 0, none⟩) n1 n1) ∧ w'.cell? ⟨v5.heap.size, 1, none⟩ = some (.slice (some ⟨g2, 0, none⟩) n2 n2) ∧ w'.cell? ⟨w.heap.size, 0, none⟩ = some (.slice A1 n1 c1) ∧ w'.cell? ⟨w.heap.size, 1, none⟩ = some (.slice A2 n2 c2)) (by kernel_rfl) (by kernel_rfl) K0 (fun _ => ?_)
    clear K0 U0 B_11 PC_11 PR_11 PW_11 W_11 XI_11 XN_11 M_11 Q0_11 XR_11 N_11 Q1_11 O_11 PG_11
    generalize v11.drew = d12 at B_12 PC_12 PR_12 PW_12 W_12 XI_12 XN_12 M_12 Q0_12 XR_12 N_12 Q1_12 O_12 PG_12 ⊢
    repeat ((first | refine wpMix_skip (by rfl) (by rfl) ?_ | (refine wpMix_take (v := ?_) (by rfl) (by rfl) (fun wS hSt => ?_) ?_; rotate_left; (focus ((try dsimp only at hSt); (go_simp <;> with_reducible rfl); done)))); (try simp only [Act.put, pS, pZ, pC]))
    (refine wpMix_bar (by rfl) (fun K hK => ?_); go_simp)
    refine (toCluster_any A1 A2 n1 c1 n2 c2 room us d12 (Hh.out.up B_12.out) Ht.out).mono ?_; rintro e v13 ⟨k1, k2, rfl, o1, o2, hb⟩
    have B_13 := qh (below_to B_12.out hb)
    have PC_13 := qh (PC_12.out.below hb PC_12.out.lt)
    have PR_13 := qh (PR_12.out.below hb PR_12.out.lt)
    have PW_13 := qh (PW_12.out.below hb PW_12.out.lt)
    have W_13 := qh (W_12.out.up hb)
    have XI_13 := qh (XI_12.out.up hb)
    have XN_13 := qh (XN_12.out.up hb)
    have M_13 := qh (M_12.out.up hb)
    have Q0_13 := qh (Q0_12.out.below hb Q0_12.out.lt)
    have XR_13 := qh (XR_12.out.up hb)
    have N_13 := qh (N_12.out.up hb)
    have Q1_13 := qh (Q1_12.out.below hb Q1_12.out.lt)
    have O_13 := qh (O_12.out.up hb)
    have PG_13 := qh (PG_12.out.below hb PG_12.out.lt)
    have T_13 := qh (show RdC v13 (some ⟨k1, 0, none⟩) (some ⟨k2, 0, none⟩) n1 n2 room us from ⟨o1.rd' Hl1.out (by omega), o2.rd Hl2.out (by omega)⟩)
    clear o1 o2
    ((try dsimp only); refine nxK hK _ _ (⟨Q0_13.out.cell 0, Q0_13.out.cell 1, PC_13.out.cell 0, PC_13.out.cell 1⟩) ?_; clear hK K; (try simp only [Act.put, pS, pZ, pC]))
    clear hb B_12 PC_12 PR_12 PW_12 W_12 XI_12 XN_12 M_12 Q0_12 XR_12 N_12 Q1_12 O_12 PG_12
    (refine wpMix_bar (by rfl) (fun K hK => ?_); go_simp)
    refine (eqCluster_any (some ⟨g1, 0, none⟩) (some ⟨g2, 0, none⟩) (some ⟨k1, 0, none⟩) (some ⟨k2, 0, none⟩) n1 n2 n1 n2 n1 n2 room us v13 M_13.out T_13.out).mono ?_; rintro e v14 ⟨rfl, hb⟩
    have B_14 := qh (below_to B_13.out hb)
    have PC_14 := qh (PC_13.out.below hb PC_13.out.lt)
    have PR_14 := qh (PR_13.out.below hb PR_13.out.lt)
    have PW_14 := qh (PW_13.out.below hb PW_13.out.lt)
    have W_14 := qh (W_13.out.up hb)
    have XI_14 := qh (XI_13.out.up hb)
    have XN_14 := qh (XN_13.out.up hb)
    have M_14 := qh (M_13.out.up hb)
    have Q0_14 := qh (Q0_13.out.below hb Q0_13.out.lt)
    have XR_14 := qh (XR_13.out.up hb)
    have N_14 := qh (N_13.out.up hb)
    have Q1_14 := qh (Q1_13.out.below hb Q1_13.out.lt)
    have O_14 := qh (O_13.out.up hb)
    have PG_14 := qh (PG_13.out.below hb PG_13.out.lt)
    have T_14 := qh (T_13.out.up hb)
    ((try dsimp only); refine nxK hK _ _ (⟨Q0_14.out.cell 0, Q0_14.out.cell 1, PC_14.out.cell 0, PC_14.out.cell 1⟩) ?_; clear hK K; (try simp only [Act.put, pS, pZ, pC]))
    clear hb B_13 PC_13 PR_13 PW_13 W_13 XI_13 XN_13 M_13 Q0_13 XR_13 N_13 Q1_13 O_13 PG_13 T_13
    repeat ((first | refine wpMix_skip (by rfl) (by rfl) ?_ | (refine wpMix_take (v := ?_) (by rfl) (by rfl) (fun wS hSt => ?_) ?_; rotate_left; (focus ((try dsimp only at hSt); (go_simp <;> with_reducible rfl); done)))); (try simp only [Act.put, pS, pZ, pC]))
    refine wpMix_nil ?_
    clear M_14 T_14
    go_upto_region 16 with fail
    have U0 := (Below.refl v14.heap.size v14).drew
    have B_15 := qh (below_to B_14.out U0)
    have PC_15 := qh (PC_14.out.below U0 PC_14.out.lt)
    have PR_15 := qh (PR_14.out.below U0 PR_14.out.lt)
    have PW_15 := qh (PW_14.out.below U0 PW_14.out.lt)
    have W_15 := qh (W_14.out.up U0)
    have XI_15 := qh (XI_14.out.up U0)
    have XN_15 := qh (XN_14.out.up U0)
    have Q0_15 := qh (Q0_14.out.below U0 Q0_14.out.lt)
    have XR_15 := qh (XR_14.out.up U0)
    have N_15 := qh (N_14.out.up U0)
    have Q1_15 := qh (Q1_14.out.below U0 Q1_14.out.lt)
    have O_15 := qh (O_14.out.up U0)
    have PG_15 := qh (PG_14.out.below U0 PG_14.out.lt)
    have K0 : v14.drew.cell? ⟨v7.heap.size, 0, none⟩ = some (.int .i64 kd) ∧ v14.drew.cell? ⟨v7.heap.size, 1, none⟩ = some (.int .i64 id) ∧ v14.drew.cell? ⟨v7.heap.size, 2, none⟩ = some (.slice (some ⟨g3, 0, none⟩) n3 n3) ∧ v14.drew.cell? ⟨v7.heap.size, 3, none⟩ = some (.bool gr) ∧ v14.drew.cell? ⟨v7.heap.size, 4, none⟩ = some (.int .i64 nm) ∧ v14.drew.cell? ⟨w.heap.size + 1, 0, none⟩ = some (.int .i64 kd) ∧ v14.drew.cell? ⟨w.heap.size + 1, 1, none⟩ = some (.int .i64 id) ∧ v14.drew.cell? ⟨w.heap.size + 1, 2, none⟩ = some (.slice A3 n3 c3) ∧ v14.drew.cell? ⟨w.heap.size + 1, 3, none⟩ = some (.bool gr) ∧ v14.drew.cell? ⟨w.heap.size + 1, 4, none⟩ = some (.int .i64 nm) := ⟨Q1_15.out.cell 0, Q1_15.out.cell 1, Q1_15.out.cell 2, Q1_15.out.cell 3, Q1_15.out.cell 4, PR_15.out.cell 0, PR_15.out.cell 1, PR_15.out.cell 2, PR_15.out.cell 3, PR_15.out.cell 4⟩
    refine wp_region_mix (.take 0 (.take 1 (.bar 2 (.bar 3 (.take 4 .nil))))) (fun w' => w'.cell? ⟨v7.heap.size, 0, none⟩ = some (.int .i64 kd) ∧ w'.cell? ⟨v7.heap.size, 1, none⟩ = some (.int .i64 id) ∧ w'.cell? ⟨v7.heap.size, 2, none⟩ = some (.slice (some ⟨g3, 0, none⟩) n3 n3) ∧ w'.cell? ⟨v7.heap.size, 3, none⟩ = some (.bool gr) ∧ w'.cell? ⟨v7.heap.size, 4, none⟩ = some (.int .i64 nm) ∧ w'.cell? ⟨w.heap.size + 1, 0, none⟩ = some (.int .i64 kd) ∧ w'.cell? ⟨w.heap.size + 1, 1, none⟩ = some (.int .i64 id) ∧ w'.cell? ⟨w.heap.size + 1, 2, none⟩ = some (.slice A3 n3 c3) ∧ w'.cell? ⟨w.heap.size + 1, 3, none⟩ = some (.bool gr) ∧ w'.cell? ⟨w.heap.size + 1, 4, none⟩ = some (.int .i64 nm)) (by kernel_rfl) (by kernel_rfl) K0 (fun _ => ?_)
    clear K0 U0 B_14 PC_14 PR_14 PW_14 W_14 XI_14 XN_14 Q0_14 XR_14 N_14 Q1_14 O_14 PG_14
    generalize v14.drew = d15 at B_15 PC_15 PR_15 PW_15 W_15 XI_15 XN_15 Q0_15 XR_15 N_15 Q1_15 O_15 PG_15 ⊢
    repeat ((first | refine wpMix_skip (by rfl) (by rfl) ?_ | (refine wpMix_take (v := ?_) (by rfl) (by rfl) (fun wS hSt => ?_) ?_; rotate_left; (focus ((try dsimp only at hSt); (go_simp <;> with_reducible rfl); done)))); (try simp only [Act.put, pS, pZ, pC]))
    (refine wpMix_bar (by rfl) (fun K hK => ?_); go_simp)
    refine (toRequest_any A3 n3 c3 kd id xs gr nm d15 (Hx.out.up B_15.out) ln3).mono ?_; rintro e v16 ⟨k3, rfl, o3, hb⟩
    have B_16 := qh (below_to B_15.out hb)
    have PC_16 := qh (PC_15.out.below hb PC_15.out.lt)
    have PR_16 := qh (PR_15.out.below hb PR_15.out.lt)
    have PW_16 := qh (PW_15.out.below hb PW_15.out.lt)
    have W_16 := qh (W_15.out.up hb)
    have XI_16 := qh (XI_15.out.up hb)
    have XN_16 := qh (XN_15.out.up hb)
    have Q0_16 := qh (Q0_15.out.below hb Q0_15.out.lt)
    have XR_16 := qh (XR_15.out.up hb)
    have N_16 := qh (N_15.out.up hb)
    have Q1_16 := qh (Q1_15.out.below hb Q1_15.out.lt)
    have O_16 := qh (O_15.out.up hb)
    have PG_16 := qh (PG_15.out.below hb PG_15.out.lt)
    have T_16 := qh (o3.rd' Hl3.out (by omega))
    clear o3
    ((try dsimp only); refine nxK hK _ _ (⟨Q1_16.out.cell 0, Q1_16.out.cell 1, Q1_16.out.cell 2, Q1_16.out.cell 3, Q1_16.out.cell 4, PR_16.out.cell 0, PR_16.out.cell 1, PR_16.out.cell 2, PR_16.out.cell 3, PR_16.out.cell 4⟩) ?_; clear hK K; (try simp only [Act.put, pS, pZ, pC]))
    clear hb B_15 PC_15 PR_15 PW_15 W_15 XI_15 XN_15 Q0_15 XR_15 N_15 Q1_15 O_15 PG_15
    (refine wpMix_bar (by rfl) (fun K hK => ?_); go_simp)
    refine (eqRequest_any (some ⟨g3, 0, none⟩) (some ⟨k3, 0, none⟩) n3 n3 n3 kd id xs gr nm v16 N_16.out T_16.out).mono ?_; rintro e v17 ⟨rfl, hb⟩
    have B_17 := qh (below_to B_16.out hb)
    have PC_17 := qh (PC_16.out.below hb PC_16.out.lt)
    have PR_17 := qh (PR_16.out.below hb PR_16.out.lt)
    have PW_17 := qh (PW_16.out.below hb PW_16.out.lt)
    have W_17 := qh (W_16.out.up hb)
    have XI_17 := qh (XI_16.out.up hb)
    have XN_17 := qh (XN_16.out.up hb)
    have Q0_17 := qh (Q0_16.out.below hb Q0_16.out.lt)
    have XR_17 := qh (XR_16.out.up hb)
    have N_17 := qh (N_16.out.up hb)
    have Q1_17 := qh (Q1_16.out.below hb Q1_16.out.lt)
    have O_17 := qh (O_16.out.up hb)
    have PG_17 := qh (PG_16.out.below hb PG_16.out.lt)
    have T_17 := qh (T_16.out.up hb)
    ((try dsimp only); refine nxK hK _ _ (⟨Q1_17.out.cell 0, Q1_17.out.cell 1, Q1_17.out.cell 2, Q1_17.out.cell 3, Q1_17.out.cell 4, PR_17.out.cell 0, PR_17.out.cell 1, PR_17.out.cell 2, PR_17.out.cell 3, PR_17.out.cell 4⟩) ?_; clear hK K; (try simp only [Act.put, pS, pZ, pC]))
    clear hb B_16 PC_16 PR_16 PW_16 W_16 XI_16 XN_16 Q0_16 XR_16 N_16 Q1_16 O_16 PG_16 T_16
    repeat ((first | refine wpMix_skip (by rfl) (by rfl) ?_ | (refine wpMix_take (v := ?_) (by rfl) (by rfl) (fun wS hSt => ?_) ?_; rotate_left; (focus ((try dsimp only at hSt); (go_simp <;> with_reducible rfl); done)))); (try simp only [Act.put, pS, pZ, pC]))
    refine wpMix_nil ?_
    clear N_17 T_17
    have hlo := XI_17.out
    obtain ⟨hg1, hg2, ys, hy1, hy2⟩ := hlo
    have Hy2 := qh hy2
    clear hy2
    have yQ00 := Q0_17.out.cell 0
    have yQ01 := Q0_17.out.cell 1
    simp only [gT, gZ, gS] at yQ00 yQ01
    go_wp2_with fail
    refine (argCluster_any w3.heap.size v5.heap.size g1 g2 n1 n2 n1 n2 1 ys v17 Hy2.out hg1 hg2 hy1 XN_17.out ln1 ln2 (by omega) (by omega)).mono ?_; rintro e v18 ⟨k1, rfl, hk1, hk2, hk⟩
    have B_18 := qh (B_17.out.trans (hk.low (show w.heap.size ≤ _ by omega) B_17.out.size))
    have PC_18 := qh (PC_17.out.koLo hk (by omega))
    have PR_18 := qh (PR_17.out.koLo hk (by omega))
    have PW_18 := qh (PW_17.out.koLo hk (by omega))
    have Q0_18 := qh (Q0_17.out.koHi hk (by omega))
    have Q1_18 := qh (Q1_17.out.koHi hk (by omega))
    have PG_18 := qh (PG_17.out.koHi hk (by omega))
    have W_18 := qh (W_17.out.ko hk (by omega))
    have O_18 := qh (O_17.out.ko hk (by omega))
    have XR_18 := qh (XR_17.out.ko hk (by omega))
    clear hk Hy2 hy1 hg1 hg2 yQ00 yQ01 B_17 PC_17 PR_17 PW_17 W_17 XI_17 XN_17 Q0_17 XR_17 Q1_17 O_17 PG_17
    have hlo := XR_18.out
    obtain ⟨hg1, hg2, ys, hy1, hy2⟩ := hlo
    have Hy2 := qh hy2
    clear hy2
    have yQ10 := Q1_18.out.cell 0
    have yQ11 := Q1_18.out.cell 1
    have yQ12 := Q1_18.out.cell 2
    have yQ13 := Q1_18.out.cell 3
    have yQ14 := Q1_18.out.cell 4
    simp only [gT, gZ, gS] at yQ10 yQ11 yQ12 yQ13 yQ14
    go_wp2_with fail
    refine (argRequest_any z6.heap.size v7.heap.size g3 n3 n3 kd id gr nm k1 ys v18 Hy2.out hg1 hg2 hy1 ln3 (by omega) (by omega)).mono ?_; rintro e v19 ⟨rfl, hk⟩
    have B_19 := qh (B_18.out.trans (hk.low (show w.heap.size ≤ _ by omega) B_18.out.size))
    have PC_19 := qh (PC_18.out.koLo hk (by omega))
    have PR_19 := qh (PR_18.out.koLo hk (by omega))
    have PW_19 := qh (PW_18.out.koLo hk (by omega))
    have PG_19 := qh (PG_18.out.koHi hk (by omega))
    have W_19 := qh (W_18.out.ko hk (by omega))
    have O_19 := qh (O_18.out.ko hk (by omega))
    clear hk Hy2 hy1 hg1 hg2 yQ10 yQ11 yQ12 yQ13 yQ14 B_18 PC_18 PR_18 PW_18 Q0_18 Q1_18 PG_18 W_18 O_18 XR_18
    have kn : ¬ k1 + (n3 : Int) < 0 := by omega
    have yPC0 := PC_19.out.cell 0
    have yPC1 := PC_19.out.cell 1
    have yPR0 := PR_19.out.cell 0
    have yPR1 := PR_19.out.cell 1
    have yPR2 := PR_19.out.cell 2
    have yPR3 := PR_19.out.cell 3
    have yPR4 := PR_19.out.cell 4
    have yPW0 := PW_19.out.cell 0
    have yPW1 := PW_19.out.cell 1
    have yPG0 := PG_19.out.cell 0
    have yPG1 := PG_19.out.cell 1
    simp only [gT, gZ, gS] at yPC0 yPC1 yPR0 yPR1 yPR2 yPR3 yPR4 yPW0 yPW1 yPG0 yPG1
    go_wp2_with fail
    refine (eqCluster_any Ag1 Ag2 Aw1 Aw2 m1 m2 cg1 cg2 cw1 cw2 ro uo v19 (O_19.out.o.rd (by omega) Hq.out.1) W_19.out.rd).mono ?_; rintro e v20 ⟨rfl, hb⟩
    have B_20 := qh (below_to B_19.out hb)
    have PC_20 := qh (PC_19.out.below hb PC_19.out.lt)
    have PR_20 := qh (PR_19.out.below hb PR_19.out.lt)
    have PW_20 := qh (PW_19.out.below hb PW_19.out.lt)
    have PG_20 := qh (PG_19.out.below hb PG_19.out.lt)
    have W_20 := qh (W_19.out.up hb)
    have O_20 := qh (O_19.out.up hb)
    clear hb yPC0 yPC1 yPR0 yPR1 yPR2 yPR3 yPR4 yPW0 yPW1 yPG0 yPG1 B_19 PC_19 PR_19 PW_19 PG_19 W_19 O_19
    have hbse := O_20.out.le
    have yPC0 := PC_20.out.cell 0
    have yPC1 := PC_20.out.cell 1
    have yPR0 := PR_20.out.cell 0
    have yPR1 := PR_20.out.cell 1
    have yPR2 := PR_20.out.cell 2
    have yPR3 := PR_20.out.cell 3
    have yPR4 := PR_20.out.cell 4
    have yPW0 := PW_20.out.cell 0
    have yPW1 := PW_20.out.cell 1
    have yPG0 := PG_20.out.cell 0
    have yPG1 := PG_20.out.cell 1
    simp only [gT, gZ, gS] at yPC0 yPC1 yPR0 yPR1 yPR2 yPR3 yPR4 yPW0 yPW1 yPG0 yPG1
    go_wp2_with fail
    refine (markCl_any z8.heap.size Ag1 Ag2 m1 cg1 m2 cg2 1 ro uo v20 O_20.out.o Hsm.out (by omega) (by omega) (by omega) hbse).mono ?_; rintro e m9 ⟨rfl, hom, hbm, hkc⟩
    have hsz5 : w.heap.size ≤ z8.heap.size := by omega
    have B_50 := qh (B_20.out.trans (hbm.mono hsz5))
    have PC_50 := qh (show Blk m9 w.heap.size _ _ from (hbm.block w.heap.size (by omega)).trans PC_20.out)
    have PR_50 := qh (show Blk m9 (w.heap.size + 1) _ _ from (hbm.block (w.heap.size + 1) (by omega)).trans PR_20.out)
    have PW_50 := qh (hkc _ _ PW_20.out)
    have PG_50 := qh (hkc _ _ PG_20.out)
    have W_50 := qh (W_20.out.low (hbm.mono (show w3.heap.size ≤ z8.heap.size by omega)))
    have OM_50 := qh (show OwW m9 z8.heap.size (.slice Ag1 m1 cg1) (.slice Ag2 m2 cg2) m1 m2 (seqI 1 m1) (mkUL (1 + (m1 : Int)) uo m2) from ⟨hom, by have := hbm.size; omega⟩)
    have HSm := qh (mkUL_short (1 + (m1 : Int)) Hsm.out m2)
    have hsq := seqI_len 1 m1
    clear hom hbm hkc hbse yPC0 yPC1 yPR0 yPR1 yPR2 yPR3 yPR4 yPW0 yPW1 yPG0 yPG1 B_20 PC_20 PR_20 PW_20 PG_20 W_20 O_20
    have yPC0 := PC_50.out.cell 0
    have yPC1 := PC_50.out.cell 1
    have yPR0 := PR_50.out.cell 0
    have yPR1 := PR_50.out.cell 1
    have yPR2 := PR_50.out.cell 2
    have yPR3 := PR_50.out.cell 3
    have yPR4 := PR_50.out.cell 4
    have yPW0 := PW_50.out.cell 0
    have yPW1 := PW_50.out.cell 1
    have yPG0 := PG_50.out.cell 0
    have yPG1 := PG_50.out.cell 1
    simp only [gT, gZ, gS] at yPC0 yPC1 yPR0 yPR1 yPR2 yPR3 yPR4 yPW0 yPW1 yPG0 yPG1
    go_wp2_with fail
    refine (heldCl_any Ag1 Ag2 m1 cg1 m2 cg2 1 uo m9 (OM_50.out.o.rd (by omega) HSm.out).a (OM_50.out.o.rd (by omega) HSm.out).b Hsm.out (by omega) (by omega) (by omega)).mono ?_; rintro e v51 ⟨rfl, hb⟩
    have B_51 := qh (below_to B_50.out hb)
    have PC_51 := qh (PC_50.out.below hb PC_50.out.lt)
    have PR_51 := qh (PR_50.out.below hb PR_50.out.lt)
    have PW_51 := qh (PW_50.out.below hb PW_50.out.lt)
    have PG_51 := qh (PG_50.out.below hb PG_50.out.lt)
    have W_51 := qh (W_50.out.up hb)
    have OM_51 := qh (OM_50.out.up hb)
    clear hb yPC0 yPC1 yPR0 yPR1 yPR2 yPR3 yPR4 yPW0 yPW1 yPG0 yPG1 B_50 PC_50 PR_50 PW_50 PG_50 W_50 OM_50
    have hq1 := (posU_bd (1 + (m1 : Int)) Hsm.out m2).1
    have hq0 : ¬ posU (1 + (m1 : Int)) uo m2 < 0 := by omega
    obtain ⟨qq, hqq⟩ : ∃ qq, posU (1 + (m1 : Int)) uo m2 = qq := ⟨_, rfl⟩
    have Hqq := qh hqq
    rw [hqq] at hq1 hq0
    rw [hqq]
    clear hqq
    have hqne : (qq != qq) = false := by simp
    go_upto_region 31 with fail
    go_cut [15, 16] (fun s15 s16 wx => ∃ (gz : Nat) (A4 : Option Addr) (m4 c4 : Nat) (A5 : Option Addr) (m5 c5 : Nat), s15 = .pointer (some ⟨gz, 0, none⟩) ∧ s16 = .int .i64 nn ∧ Blk wx gz 26 #[.slice A4 m4 c4, .slice A5 m5 c5] ∧ RdC wx A4 A5 m4 m5 ro uo ∧ Below v51.heap.size v51 wx)
    case first =>
      have U0 := qh ((Below.refl v51.heap.size v51).drew)
      have HS := qh (fun w' (hb : Below v51.heap.size v51 w') => (⟨(PC_51.out.below hb PC_51.out.lt).cell 0, (PC_51.out.below hb PC_51.out.lt).cell 1, (PR_51.out.below hb PR_51.out.lt).cell 0, (PR_51.out.below hb PR_51.out.lt).cell 1, (PR_51.out.below hb PR_51.out.lt).cell 2, (PR_51.out.below hb PR_51.out.lt).cell 3, (PR_51.out.below hb PR_51.out.lt).cell 4⟩ : w'.cell? ⟨w.heap.size, 0, none⟩ = some (.slice A1 n1 c1) ∧ w'.cell? ⟨w.heap.size, 1, none⟩ = some (.slice A2 n2 c2) ∧ w'.cell? ⟨w.heap.size + 1, 0, none⟩ = some (.int .i64 kd) ∧ w'.cell? ⟨w.heap.size + 1, 1, none⟩ = some (.int .i64 id) ∧ w'.cell? ⟨w.heap.size + 1, 2, none⟩ = some (.slice A3 n3 c3) ∧ w'.cell? ⟨w.heap.size + 1, 3, none⟩ = some (.bool gr) ∧ w'.cell? ⟨w.heap.size + 1, 4, none⟩ = some (.int .i64 nm)))
      have K0 := HS.out _ U0.out
      refine wp_region_mix ((.take 0 (.take 2 (.fork 1 (.fork 3 (.fork 4 (.take 5 (.take 6 (.take 7 (.bar 8 (.bar 9 (.take 10 .nil)))))) 8 (.bar 4 (.take 5 (.take 6 (.take 7 (.bar 9 (.take 10 .nil))))))) 8 (.bar 3 (.bar 4 (.take 5 (.take 6 (.take 7 (.bar 9 (.take 10 .nil)))))))) 8 (.bar 1 (.bar 3 (.bar 4 (.take 5 (.take 6 (.take 7 (.bar 9 (.take 10 .nil)))))))))))) (fun w' => w'.cell? ⟨w.heap.size, 0, none⟩ = some (.slice A1 n1 c1) ∧ w'.cell? ⟨w.heap.size, 1, none⟩ = some (.slice A2 n2 c2) ∧ w'.cell? ⟨w.heap.size + 1, 0, none⟩ = some (.int .i64 kd) ∧ w'.cell? ⟨w.heap.size + 1, 1, none⟩ = some (.int .i64 id) ∧ w'.cell? ⟨w.heap.size + 1, 2, none⟩ = some (.slice A3 n3 c3) ∧ w'.cell? ⟨w.heap.size + 1, 3, none⟩ = some (.bool gr) ∧ w'.cell? ⟨w.heap.size + 1, 4, none⟩ = some (.int .i64 nm)) (by kernel_rfl) (by kernel_rfl) K0 (fun _ => ?_)
      clear K0
      generalize v51.drew = u0 at U0 ⊢
      repeat ((first | refine wpMix_skip (by rfl) (by rfl) ?_ | (refine wpMix_take (v := ?_) (by rfl) (by rfl) (fun wS hSt => ?_) ?_; rotate_left; (focus ((try dsimp only at hSt); (go_simp <;> with_reducible rfl); done)))); (try simp only [Act.put, pS, pZ, pC]))
      refine wpMix_fork (by rfl) (by rfl) (fun K hK => ?_) (fun K hK => ?_)
      · skip
        go_simp
        refine (toCluster_any A1 A2 n1 c1 n2 c2 room us u0 (((Hh.out.up B_51.out)).up U0.out) Ht.out).mono ?_; rintro e u1 ⟨g1, g2, rfl, o1, o2, hb⟩
        have HC := qh (show RdC u1 (some ⟨g1, 0, none⟩) (some ⟨g2, 0, none⟩) n1 n2 room us from ⟨o1.rd' Hl1.out (by omega), o2.rd Hl2.out (by omega)⟩)
        clear o1 o2
        have U1 := qh (U0.out.trans (hb.mono U0.out.size))
        ((try dsimp only); refine nxK hK _ _ (HS.out _ U1.out) ?_; clear hK K; (try simp only [Act.put, pS, pZ, pC]))
        clear hb
        refine wpMix_fork (by rfl) (by rfl) (fun K hK => ?_) (fun K hK => ?_)
        · skip
          go_simp
          refine (toRequest_any A3 n3 c3 kd id xs gr nm u1 (((Hx.out.up B_51.out)).up U1.out) (by omega)).mono ?_; rintro e u2 ⟨g3, rfl, o3, hb⟩
          have HN := qh (o3.rd' Hl3.out (by omega))
          clear o3
          replace HC := qh (HC.out.up hb)
          have U2 := qh (U1.out.trans (hb.mono U1.out.size))
          ((try dsimp only); refine nxK hK _ _ (HS.out _ U2.out) ?_; clear hK K; (try simp only [Act.put, pS, pZ, pC]))
          clear hb
          refine wpMix_fork (by rfl) (by rfl) (fun K hK => ?_) (fun K hK => ?_)
          · skip
            go_simp
            refine (requestDoI_any (some ⟨g1, 0, none⟩) (some ⟨g2, 0, none⟩) (some ⟨g3, 0, none⟩) n1 n1 n2 n2 n3 n3 room us ⟨kd, id, xs, gr, nm⟩ u2 HC.out Hv.out HN.out (Nat.le_refl _)).mono ?_; rintro e u3 ⟨A4, m4, c4, A5, m5, c5, he, hoc, hb⟩
            simp only [Hp.out] at he hoc
            subst he
            have HO := qh hoc
            clear hoc HC HN
            have U3 := qh (U2.out.trans (hb.mono U2.out.size))
            ((try dsimp only); refine nxK hK _ _ (HS.out _ U3.out) ?_; clear hK K; (try simp only [Act.put, pS, pZ, pC]))
            clear hb
            repeat ((first | refine wpMix_skip (by rfl) (by rfl) ?_ | (refine wpMix_take (v := ?_) (by rfl) (by rfl) (fun wS hSt => ?_) ?_; rotate_left; (focus ((try dsimp only at hSt); (go_simp <;> with_reducible rfl); done)))); (try simp only [Act.put, pS, pZ, pC]))
            refine wpMix_bar (by rfl) (fun K hK => ?_)
            go_simp
            have hb := alloc_up u3 (.cells #[.slice none 0 0, .slice none 0 0] 26)
            have U4 := qh (U3.out.trans (hb.mono U3.out.size))
            have ZZ := qh (Blk.new u3 26 #[.slice none 0 0, .slice none 0 0])
            have hgz : v51.heap.size ≤ u3.heap.size := U3.out.size
            replace HO := qh (HO.out.keepTU (KeepTU.up hb))
            ((try dsimp only); refine nxK hK _ _ (HS.out _ U4.out) ?_; clear hK K; (try simp only [Act.put, pS, pZ, pC]))
            generalize u3.heap.size = gz at ZZ hgz ⊢
            generalize u3.alloc (.cells #[.slice none 0 0, .slice none 0 0] 26) = u4 at U4 ZZ HO ⊢
            clear hb
            refine wpMix_bar (by rfl) (fun K hK => ?_)
            have x0 := ZZ.out.cell 0
            have x1 := ZZ.out.cell 1
            simp only [gT, gZ, gS] at x0 x1
            have x2 := ZZ.out.frozen 0
            have x3 := ZZ.out.frozen 1
            go_simp
            have KT := (KeepTU.set_ ZZ.out (by decide) (by decide) (by decide) 0 (.slice A4 m4 c4)).trans (KeepTU.set_ (ZZ.out.set_ 0 (.slice A4 m4 c4)) (by decide) (by decide) (by decide) 1 (.slice A5 m5 c5))
            have U5 := qh ((U4.out.setCell (p := ⟨gz, 0, none⟩) hgz (.slice A4 m4 c4)).setCell (p := ⟨gz, 1, none⟩) hgz (.slice A5 m5 c5))
            have RC := qh ((HO.out.keepTU KT).rd (by have := HO.out.len; have := Hq.out.2; omega) Hq.out.1)
            have Z9 := qh (show Blk (World.setCell (World.setCell u4 ⟨gz, 0, none⟩ (.slice A4 m4 c4)) ⟨gz, 1, none⟩ (.slice A5 m5 c5)) gz 26 #[.slice A4 m4 c4, .slice A5 m5 c5] from (ZZ.out.set_ 0 (.slice A4 m4 c4)).set_ 1 (.slice A5 m5 c5))
            ((try dsimp only); refine nxK hK _ _ (HS.out _ U5.out) ?_; clear hK K; (try simp only [Act.put, pS, pZ, pC]))
            clear x0 x1 x2 x3 KT
            generalize (World.setCell (World.setCell u4 ⟨gz, 0, none⟩ (.slice A4 m4 c4)) ⟨gz, 1, none⟩ (.slice A5 m5 c5)) = u5 at U5 RC Z9 ⊢
            repeat ((first | refine wpMix_skip (by rfl) (by rfl) ?_ | (refine wpMix_take (v := ?_) (by rfl) (by rfl) (fun wS hSt => ?_) ?_; rotate_left; (focus ((try dsimp only at hSt); (go_simp <;> with_reducible rfl); done)))); (try simp only [Act.put, pS, pZ, pC]))
            refine wpMix_nil ?_
            go_wp2_with fail
            go_meet
            case rel => exact ⟨gz, A4, m4, c4, A5, m5, c5, rfl, rfl, Z9.out, RC.out, U5.out⟩
          · skip
            go_simp
            have hb := alloc_up u2 (.cells #[.slice none 0 0, .slice none 0 0] 26)
            have U3 := qh (U2.out.trans (hb.mono U2.out.size))
            have ZZ := qh (Blk.new u2 26 #[.slice none 0 0, .slice none 0 0])
            have hgz : v51.heap.size ≤ u2.heap.size := U2.out.size
            replace HC := qh (HC.out.up hb)
            replace HN := qh (HN.out.up hb)
            ((try dsimp only); refine nxK hK _ _ (HS.out _ U3.out) ?_; clear hK K; (try simp only [Act.put, pS, pZ, pC]))
            generalize u2.heap.size = gz at ZZ hgz ⊢
            generalize u2.alloc (.cells #[.slice none 0 0, .slice none 0 0] 26) = u3 at U3 ZZ HC HN ⊢
            clear hb
            refine wpMix_bar (by rfl) (fun K hK => ?_)
            go_simp
            refine (requestDoI_any (some ⟨g1, 0, none⟩) (some ⟨g2, 0, none⟩) (some ⟨g3, 0, none⟩) n1 n1 n2 n2 n3 n3 room us ⟨kd, id, xs, gr, nm⟩ u3 HC.out Hv.out HN.out (Nat.le_refl _)).mono ?_; rintro e u4 ⟨A4, m4, c4, A5, m5, c5, he, hoc, hb⟩
            simp only [Hp.out] at he hoc
            subst he
            have HO := qh hoc
            clear hoc HC HN
            replace ZZ := qh (ZZ.out.below hb ZZ.out.lt)
            have U4 := qh (U3.out.trans (hb.mono U3.out.size))
            ((try dsimp only); refine nxK hK _ _ (HS.out _ U4.out) ?_; clear hK K; (try simp only [Act.put, pS, pZ, pC]))
            clear hb
            repeat ((first | refine wpMix_skip (by rfl) (by rfl) ?_ | (refine wpMix_take (v := ?_) (by rfl) (by rfl) (fun wS hSt => ?_) ?_; rotate_left; (focus ((try dsimp only at hSt); (go_simp <;> with_reducible rfl); done)))); (try simp only [Act.put, pS, pZ, pC]))
            refine wpMix_bar (by rfl) (fun K hK => ?_)
            have x0 := ZZ.out.cell 0
            have x1 := ZZ.out.cell 1
            simp only [gT, gZ, gS] at x0 x1
            have x2 := ZZ.out.frozen 0
            have x3 := ZZ.out.frozen 1
            go_simp
            have KT := (KeepTU.set_ ZZ.out (by decide) (by decide) (by decide) 0 (.slice A4 m4 c4)).trans (KeepTU.set_ (ZZ.out.set_ 0 (.slice A4 m4 c4)) (by decide) (by decide) (by decide) 1 (.slice A5 m5 c5))
            have U5 := qh ((U4.out.setCell (p := ⟨gz, 0, none⟩) hgz (.slice A4 m4 c4)).setCell (p := ⟨gz, 1, none⟩) hgz (.slice A5 m5 c5))
            have RC := qh ((HO.out.keepTU KT).rd (by have := HO.out.len; have := Hq.out.2; omega) Hq.out.1)
            have Z9 := qh (show Blk (World.setCell (World.setCell u4 ⟨gz, 0, none⟩ (.slice A4 m4 c4)) ⟨gz, 1, none⟩ (.slice A5 m5 c5)) gz 26 #[.slice A4 m4 c4, .slice A5 m5 c5] from (ZZ.out.set_ 0 (.slice A4 m4 c4)).set_ 1 (.slice A5 m5 c5))
            ((try dsimp only); refine nxK hK _ _ (HS.out _ U5.out) ?_; clear hK K; (try simp only [Act.put, pS, pZ, pC]))
            clear x0 x1 x2 x3 KT
            generalize (World.setCell (World.setCell u4 ⟨gz, 0, none⟩ (.slice A4 m4 c4)) ⟨gz, 1, none⟩ (.slice A5 m5 c5)) = u5 at U5 RC Z9 ⊢
            repeat ((first | refine wpMix_skip (by rfl) (by rfl) ?_ | (refine wpMix_take (v := ?_) (by rfl) (by rfl) (fun wS hSt => ?_) ?_; rotate_left; (focus ((try dsimp only at hSt); (go_simp <;> with_reducible rfl); done)))); (try simp only [Act.put, pS, pZ, pC]))
            refine wpMix_nil ?_
            go_wp2_with fail
            go_meet
            case rel => exact ⟨gz, A4, m4, c4, A5, m5, c5, rfl, rfl, Z9.out, RC.out, U5.out⟩
        · skip
          go_simp
          have hb := alloc_up u1 (.cells #[.slice none 0 0, .slice none 0 0] 26)
          have U2 := qh (U1.out.trans (hb.mono U1.out.size))
          have ZZ := qh (Blk.new u1 26 #[.slice none 0 0, .slice none 0 0])
          have hgz : v51.heap.size ≤ u1.heap.size := U1.out.size
          replace HC := qh (HC.out.up hb)
          ((try dsimp only); refine nxK hK _ _ (HS.out _ U2.out) ?_; clear hK K; (try simp only [Act.put, pS, pZ, pC]))
          generalize u1.heap.size = gz at ZZ hgz ⊢
          generalize u1.alloc (.cells #[.slice none 0 0, .slice none 0 0] 26) = u2 at U2 ZZ HC ⊢
          clear hb
          refine wpMix_bar (by rfl) (fun K hK => ?_)
          go_simp
          refine (toRequest_any A3 n3 c3 kd id xs gr nm u2 (((Hx.out.up B_51.out)).up U2.out) (by omega)).mono ?_; rintro e u3 ⟨g3, rfl, o3, hb⟩
          have HN := qh (o3.rd' Hl3.out (by omega))
          clear o3
          replace HC := qh (HC.out.up hb)
          replace ZZ := qh (ZZ.out.below hb ZZ.out.lt)
          have U3 := qh (U2.out.trans (hb.mono U2.out.size))
          ((try dsimp only); refine nxK hK _ _ (HS.out _ U3.out) ?_; clear hK K; (try simp only [Act.put, pS, pZ, pC]))
          clear hb
          refine wpMix_bar (by rfl) (fun K hK => ?_)
          go_simp
          refine (requestDoI_any (some ⟨g1, 0, none⟩) (some ⟨g2, 0, none⟩) (some ⟨g3, 0, none⟩) n1 n1 n2 n2 n3 n3 room us ⟨kd, id, xs, gr, nm⟩ u3 HC.out Hv.out HN.out (Nat.le_refl _)).mono ?_; rintro e u4 ⟨A4, m4, c4, A5, m5, c5, he, hoc, hb⟩
          simp only [Hp.out] at he hoc
          subst he
          have HO := qh hoc
          clear hoc HC HN
          replace ZZ := qh (ZZ.out.below hb ZZ.out.lt)
          have U4 := qh (U3.out.trans (hb.mono U3.out.size))
          ((try dsimp only); refine nxK hK _ _ (HS.out _ U4.out) ?_; clear hK K; (try simp only [Act.put, pS, pZ, pC]))
          clear hb
          repeat ((first | refine wpMix_skip (by rfl) (by rfl) ?_ | (refine wpMix_take (v := ?_) (by rfl) (by rfl) (fun wS hSt => ?_) ?_; rotate_left; (focus ((try dsimp only at hSt); (go_simp <;> with_reducible rfl); done)))); (try simp only [Act.put, pS, pZ, pC]))
          refine wpMix_bar (by rfl) (fun K hK => ?_)
          have x0 := ZZ.out.cell 0
          have x1 := ZZ.out.cell 1
          simp only [gT, gZ, gS] at x0 x1
          have x2 := ZZ.out.frozen 0
          have x3 := ZZ.out.frozen 1
          go_simp
          have KT := (KeepTU.set_ ZZ.out (by decide) (by decide) (by decide) 0 (.slice A4 m4 c4)).trans (KeepTU.set_ (ZZ.out.set_ 0 (.slice A4 m4 c4)) (by decide) (by decide) (by decide) 1 (.slice A5 m5 c5))
          have U5 := qh ((U4.out.setCell (p := ⟨gz, 0, none⟩) hgz (.slice A4 m4 c4)).setCell (p := ⟨gz, 1, none⟩) hgz (.slice A5 m5 c5))
          have RC := qh ((HO.out.keepTU KT).rd (by have := HO.out.len; have := Hq.out.2; omega) Hq.out.1)
          have Z9 := qh (show Blk (World.setCell (World.setCell u4 ⟨gz, 0, none⟩ (.slice A4 m4 c4)) ⟨gz, 1, none⟩ (.slice A5 m5 c5)) gz 26 #[.slice A4 m4 c4, .slice A5 m5 c5] from (ZZ.out.set_ 0 (.slice A4 m4 c4)).set_ 1 (.slice A5 m5 c5))
          ((try dsimp only); refine nxK hK _ _ (HS.out _ U5.out) ?_; clear hK K; (try simp only [Act.put, pS, pZ, pC]))
          clear x0 x1 x2 x3 KT
          generalize (World.setCell (World.setCell u4 ⟨gz, 0, none⟩ (.slice A4 m4 c4)) ⟨gz, 1, none⟩ (.slice A5 m5 c5)) = u5 at U5 RC Z9 ⊢
          repeat ((first | refine wpMix_skip (by rfl) (by rfl) ?_ | (refine wpMix_take (v := ?_) (by rfl) (by rfl) (fun wS hSt => ?_) ?_; rotate_left; (focus ((try dsimp only at hSt); (go_simp <;> with_reducible rfl); done)))); (try simp only [Act.put, pS, pZ, pC]))
          refine wpMix_nil ?_
          go_wp2_with fail
          go_meet
          case rel => exact ⟨gz, A4, m4, c4, A5, m5, c5, rfl, rfl, Z9.out, RC.out, U5.out⟩
      · skip
        go_simp
        have hb := alloc_up u0 (.cells #[.slice none 0 0, .slice none 0 0] 26)
        have U1 := qh (U0.out.trans (hb.mono U0.out.size))
        have ZZ := qh (Blk.new u0 26 #[.slice none 0 0, .slice none 0 0])
        have hgz : v51.heap.size ≤ u0.heap.size := U0.out.size
        ((try dsimp only); refine nxK hK _ _ (HS.out _ U1.out) ?_; clear hK K; (try simp only [Act.put, pS, pZ, pC]))
        generalize u0.heap.size = gz at ZZ hgz ⊢
        generalize u0.alloc (.cells #[.slice none 0 0, .slice none 0 0] 26) = u1 at U1 ZZ  ⊢
        clear hb
        refine wpMix_bar (by rfl) (fun K hK => ?_)
        go_simp
        refine (toCluster_any A1 A2 n1 c1 n2 c2 room us u1 (((Hh.out.up B_51.out)).up U1.out) Ht.out).mono ?_; rintro e u2 ⟨g1, g2, rfl, o1, o2, hb⟩
        have HC := qh (show RdC u2 (some ⟨g1, 0, none⟩) (some ⟨g2, 0, none⟩) n1 n2 room us from ⟨o1.rd' Hl1.out (by omega), o2.rd Hl2.out (by omega)⟩)
        clear o1 o2
        replace ZZ := qh (ZZ.out.below hb ZZ.out.lt)
        have U2 := qh (U1.out.trans (hb.mono U1.out.size))
        ((try dsimp only); refine nxK hK _ _ (HS.out _ U2.out) ?_; clear hK K; (try simp only [Act.put, pS, pZ, pC]))
        clear hb
        refine wpMix_bar (by rfl) (fun K hK => ?_)
        go_simp
        refine (toRequest_any A3 n3 c3 kd id xs gr nm u2 (((Hx.out.up B_51.out)).up U2.out) (by omega)).mono ?_; rintro e u3 ⟨g3, rfl, o3, hb⟩
        have HN := qh (o3.rd' Hl3.out (by omega))
        clear o3
        replace HC := qh (HC.out.up hb)
        replace ZZ := qh (ZZ.out.below hb ZZ.out.lt)
        have U3 := qh (U2.out.trans (hb.mono U2.out.size))
        ((try dsimp only); refine nxK hK _ _ (HS.out _ U3.out) ?_; clear hK K; (try simp only [Act.put, pS, pZ, pC]))
        clear hb
        refine wpMix_bar (by rfl) (fun K hK => ?_)
        go_simp
        refine (requestDoI_any (some ⟨g1, 0, none⟩) (some ⟨g2, 0, none⟩) (some ⟨g3, 0, none⟩) n1 n1 n2 n2 n3 n3 room us ⟨kd, id, xs, gr, nm⟩ u3 HC.out Hv.out HN.out (Nat.le_refl _)).mono ?_; rintro e u4 ⟨A4, m4, c4, A5, m5, c5, he, hoc, hb⟩
        simp only [Hp.out] at he hoc
        subst he
        have HO := qh hoc
        clear hoc HC HN
        replace ZZ := qh (ZZ.out.below hb ZZ.out.lt)
        have U4 := qh (U3.out.trans (hb.mono U3.out.size))
        ((try dsimp only); refine nxK hK _ _ (HS.out _ U4.out) ?_; clear hK K; (try simp only [Act.put, pS, pZ, pC]))
        clear hb
        repeat ((first | refine wpMix_skip (by rfl) (by rfl) ?_ | (refine wpMix_take (v := ?_) (by rfl) (by rfl) (fun wS hSt => ?_) ?_; rotate_left; (focus ((try dsimp only at hSt); (go_simp <;> with_reducible rfl); done)))); (try simp only [Act.put, pS, pZ, pC]))
        refine wpMix_bar (by rfl) (fun K hK => ?_)
        have x0 := ZZ.out.cell 0
        have x1 := ZZ.out.cell 1
        simp only [gT, gZ, gS] at x0 x1
        have x2 := ZZ.out.frozen 0
        have x3 := ZZ.out.frozen 1
        go_simp
        have KT := (KeepTU.set_ ZZ.out (by decide) (by decide) (by decide) 0 (.slice A4 m4 c4)).trans (KeepTU.set_ (ZZ.out.set_ 0 (.slice A4 m4 c4)) (by decide) (by decide) (by decide) 1 (.slice A5 m5 c5))
        have U5 := qh ((U4.out.setCell (p := ⟨gz, 0, none⟩) hgz (.slice A4 m4 c4)).setCell (p := ⟨gz, 1, none⟩) hgz (.slice A5 m5 c5))
        have RC := qh ((HO.out.keepTU KT).rd (by have := HO.out.len; have := Hq.out.2; omega) Hq.out.1)
        have Z9 := qh (show Blk (World.setCell (World.setCell u4 ⟨gz, 0, none⟩ (.slice A4 m4 c4)) ⟨gz, 1, none⟩ (.slice A5 m5 c5)) gz 26 #[.slice A4 m4 c4, .slice A5 m5 c5] from (ZZ.out.set_ 0 (.slice A4 m4 c4)).set_ 1 (.slice A5 m5 c5))
        ((try dsimp only); refine nxK hK _ _ (HS.out _ U5.out) ?_; clear hK K; (try simp only [Act.put, pS, pZ, pC]))
        clear x0 x1 x2 x3 KT
        generalize (World.setCell (World.setCell u4 ⟨gz, 0, none⟩ (.slice A4 m4 c4)) ⟨gz, 1, none⟩ (.slice A5 m5 c5)) = u5 at U5 RC Z9 ⊢
        repeat ((first | refine wpMix_skip (by rfl) (by rfl) ?_ | (refine wpMix_take (v := ?_) (by rfl) (by rfl) (fun wS hSt => ?_) ?_; rotate_left; (focus ((try dsimp only at hSt); (go_simp <;> with_reducible rfl); done)))); (try simp only [Act.put, pS, pZ, pC]))
        refine wpMix_nil ?_
        go_wp2_with fail
        go_meet
        case rel => exact ⟨gz, A4, m4, c4, A5, m5, c5, rfl, rfl, Z9.out, RC.out, U5.out⟩
    case rest =>
      obtain ⟨gh, Ah1, p3, ch1, Ah2, p4, ch2, rfl, rfl, hZ, hC, hB⟩ := hcut
      obtain ⟨w7, rfl⟩ : ∃ w7 : World, w7 = wc := ⟨_, rfl⟩
      have B_52 := qh (below_to B_51.out hB)
      have PC_52 := qh (PC_51.out.below hB PC_51.out.lt)
      have PR_52 := qh (PR_51.out.below hB PR_51.out.lt)
      have PW_52 := qh (PW_51.out.below hB PW_51.out.lt)
      have PG_52 := qh (PG_51.out.below hB PG_51.out.lt)
      have W_52 := qh (W_51.out.up hB)
      have OM_52 := qh (OM_51.out.up hB)
      have PH_52 := qh (hZ)
      have K_52 := qh (hC)
      obtain rfl : m1 = p3 := by have := hC.a.len; have := Lp1.out; omega
      obtain rfl : m2 = p4 := by have := hC.b.len; have := Lp2.out; omega
      clear hZ hC hB B_51 PC_51 PR_51 PW_51 PG_51 W_51 OM_51
      have yPC0 := PC_52.out.cell 0
      have yPC1 := PC_52.out.cell 1
      have yPR0 := PR_52.out.cell 0
      have yPR1 := PR_52.out.cell 1
      have yPR2 := PR_52.out.cell 2
      have yPR3 := PR_52.out.cell 3
      have yPR4 := PR_52.out.cell 4
      have yPW0 := PW_52.out.cell 0
      have yPW1 := PW_52.out.cell 1
      have yPG0 := PG_52.out.cell 0
      have yPG1 := PG_52.out.cell 1
      have yPH0 := PH_52.out.cell 0
      have yPH1 := PH_52.out.cell 1
      simp only [gT, gZ, gS] at yPC0 yPC1 yPR0 yPR1 yPR2 yPR3 yPR4 yPW0 yPW1 yPG0 yPG1 yPH0 yPH1
      go_wp2_with fail
      refine (eqCluster_any Ah1 Ah2 Aw1 Aw2 m1 m2 ch1 ch2 cw1 cw2 ro uo w7 K_52.out W_52.out.rd).mono ?_; rintro e v53 ⟨rfl, hb⟩
      have B_53 := qh (below_to B_52.out hb)
      have PC_53 := qh (PC_52.out.below hb PC_52.out.lt)
      have PR_53 := qh (PR_52.out.below hb PR_52.out.lt)
      have PW_53 := qh (PW_52.out.below hb PW_52.out.lt)
      have PG_53 := qh (PG_52.out.below hb PG_52.out.lt)
      have W_53 := qh (W_52.out.up hb)
      have OM_53 := qh (OM_52.out.up hb)
      have PH_53 := qh (PH_52.out.below hb PH_52.out.lt)
      have K_53 := qh (K_52.out.up hb)
      clear hb yPC0 yPC1 yPR0 yPR1 yPR2 yPR3 yPR4 yPW0 yPW1 yPG0 yPG1 yPH0 yPH1 B_52 PC_52 PR_52 PW_52 PG_52 W_52 OM_52 PH_52 K_52
      have hcall := qh (heldCl_any Ag1 Ag2 m1 cg1 m2 cg2 1 uo v53 (OM_53.out.o.rd (by omega) HSm.out).a (OM_53.out.o.rd (by omega) HSm.out).b Hsm.out (by omega) (by omega) (by omega))
      rw [Hqq.out] at hcall
      have yPG0 := PG_53.out.cell 0
      have yPG1 := PG_53.out.cell 1
      simp only [gT, gZ, gS] at yPG0 yPG1
      go_wp2_with (go_at_call 45; refine hcall.out.mono ?_; rintro e w18 ⟨rfl, d18⟩)
      go_ret
      exact ⟨rfl, below_to B_53.out d18⟩
end Go.Proofs.YtlegpecjoaklnaaGreatDoor
