/- Walks (the program): a cluster in lines. (Printed by gen_scshowi.py.) -/
import Derived.Test.YtdkhdfedejbicaaGreatDoorS3
namespace Go.Proofs.YtdkhdfedejbicaaGreatDoor
set_option linter.unusedSimpArgs false
set_option linter.unusedVariables false
open Go Go.RowKit
attribute [local go_sem ↓] Go.wp_at_zero Go.wp_at_succ

set_option maxRecDepth 100000 in
set_option maxHeartbeats 6400000 in
theorem showI_any (A1 A2 : Option Addr) (n1 c1 n2 c2 : Nat) (room : List Int) (us : List Un) (w : World) (h : RdC w A1 A2 n1 n2 room us) (hok : clOk room us = true) :
    Calls Tryz.prog 42 #[.agg #[.slice A1 n1 c1, .slice A2 n2 c2]] w fun e w' => e = .returned (.string (bs (showT us))) ∧ Below w.heap.size w w' := by
  have B1 := qh (alloc_up w (.cells #[.slice A1 n1 c1, .slice A2 n2 c2] 35))
  have P1 := qh (Blk.new w 35 #[.slice A1 n1 c1, .slice A2 n2 c2])
  have H := qh h.b
  have Hl := qh h.b.len
  have hn10 : n2 ≤ 10 := by rw [← h.b.len]; simp only [clOk, Bool.and_eq_true, decide_eq_true_eq] at hok; exact hok.1.1.2
  have Hun := qh (fun i (hi : i < us.length) => cl_unit hok hi)
  have Hlen := qh (unitsTo_len (us := us) (fun i hi => (cl_unit hok hi).1))
  clear h hok
  go_enter Tryz.func42, Tryz.ntmps42
  have x0 := P1.out.cell 0
  have x1 := P1.out.cell 1
  simp only [gT, gZ, gS] at x0 x1
  have x2 : ((w.alloc (.cells #[.slice A1 n1 c1, .slice A2 n2 c2] 35)).alloc (.cells #[.pointer none, .slice none 0 0] 40)).cell? ⟨w.heap.size, 1, none⟩ = some (.slice A2 n2 c2) := by rw [World.cell?_alloc_past _ _ _ (by simp)]; exact x1
  have sz1 : (w.alloc (.cells #[.slice A1 n1 c1, .slice A2 n2 c2] 35)).heap.size = w.heap.size + 1 := by simp
  have I1 := qh (Lib.IsBuilderF.of (Lib.fresh_isBuilder 40 5 (w.alloc (.cells #[.slice A1 n1 c1, .slice A2 n2 c2] 35))))
  rw [sz1] at I1
  have al2 := (alloc_up (w.alloc (.cells #[.slice A1 n1 c1, .slice A2 n2 c2] 35)) (.cells #[.pointer none, .slice none 0 0] 40))
  have B2 := qh (B1.out.trans (al2.mono (by omega)))
  go_wp2_with fail
  clear x0 x1 x2 al2
  generalize hgx : w.heap.size = gx at I1 sz1 B2 H ⊢
  generalize (w.alloc (.cells #[.slice A1 n1 c1, .slice A2 n2 c2] 35)).alloc (.cells #[.pointer none, .slice none 0 0] 40) = w1 at I1 B2 ⊢
  clear B1 P1 sz1
  go_loopw [12] (fun i wr => ∃ k : Nat, i = .int .i64 (k : Int) ∧ k ≤ n2 ∧ IsB (gx + 1) (gx + 1) (unitsTo us k) wr ∧ Below gx w wr) (fun i _ => n2 - (intOf i).toNat)
  case atStart => exact ⟨0, rfl, Nat.zero_le _, I1.out, B2.out⟩
  case round =>
    clear I1 B2
    obtain ⟨k, rfl, hk, hi, hb⟩ := hrel
    obtain ⟨wo, rfl⟩ : ∃ wo, wo = wr := ⟨_, rfl⟩
    have HI := qh hi
    have HB := qh hb
    have lz : gx ≤ wo.heap.size := by have := hb.size; omega
    have lz1 : gx + 1 < wo.heap.size := hi.elim (fun x => x.lt) (fun x => x.lt)
    have hub := Hlen.out k
    clear hi hb
    by_cases hlt : k < n2
    · obtain ⟨b, o, A5, m5, c5, rfl, lb, hc1, hc2, hmc, hr⟩ := (H.out.below HB.out).at_ hlt
      obtain ⟨hm14, htk⟩ := Hun.out k (by have := Hl.out; omega)
      have Es := qh (unitsTo_succ (us := us) (i := k) (by have := Hl.out; omega))
      have Eu := qh (unitT_is (us[k]?.getD (false, [])))
      have Hr := qh hr
      have Hrl := qh hr.len
      have Htk := qh htk
      have k1 : (0 : Int) ≤ (k : Int) := by omega
      have k2 : (k : Int) < (n2 : Int) := by omega
      have k3 : (0 : Int) ≤ (k : Int) * 2 := by omega
      have v1 : IntKind.i64.wrap ((k : Int) + 1) = (k : Int) + 1 := wr64 (by omega) (by omega)
      clear hr htk
      generalize us[k]?.getD (false, []) = u at *
      generalize hv0 : unitsTo us k = v0 at *
      clear hv0
      obtain ⟨op, ts⟩ := u
      try dsimp only at hm14
      have e0 := hc1
      try dsimp only at e0
      cases op with
      | false =>
        have U5 := qh (Blk.new wo 83 #[.bool false, .slice A5 m5 c5])
        have IU := qh (Lib.IsBuilderF.alloc HI.out (.cells #[.bool false, .slice A5 m5 c5] 83))
        have BU := qh ((Below.refl gx wo).alloc lz (.cells #[.bool false, .slice A5 m5 c5] 83))
        have y0 := U5.out.cell 0
        have y1 := U5.out.cell 1
        simp only [gT, gZ, gS] at y0 y1
        have szu : (wo.alloc (.cells #[.bool false, .slice A5 m5 c5] 83)).heap.size = wo.heap.size + 1 := by simp
        go_wp2_with fail
        clear y0 y1 e0 hc1 hc2
        generalize hgu : wo.heap.size = gu at U5 szu ⊢
        generalize wo.alloc (.cells #[.bool false, .slice A5 m5 c5] 83) = wu at U5 IU BU szu ⊢
        have h6 : wClosed.length ≤ 6 := (by decide)
        refine (writeString_k (gx + 1) (gx + 1) v0 (bs wClosed) wu IU.out (by rw [bs_size]; omega) (by omega)).mono ?_; rintro e w2 ⟨rfl, hi2, hb2, ho2⟩
        rw [bs_list] at hi2
        have I2 := qh hi2
        have U2 := qh (show Blk w2 gu 83 #[.bool false, .slice A5 m5 c5] from ho2.blk U5.out (by omega) (by decide))
        have B2 := qh (BU.out.trans (hb2.mono (by omega)))
        have hl1 : (v0 ++ wClosed).length ≤ 175 * k + 6 := by rw [List.length_append]; omega
        clear hi2 hb2 ho2 IU U5 BU
        have y1 := U2.out.cell 1
        simp only [gT, gZ, gS] at y1
        go_wp2_with fail
        clear y1
        generalize hv1 : v0 ++ wClosed = v1 at hl1 I2
        have HV1 := qh hv1
        clear hv1 szu U2
        go_loopw [23] (fun i wr => ∃ j : Nat, i = .int .i64 (j : Int) ∧ j ≤ m5 ∧ IsB (gx + 1) (gx + 1) (v1 ++ tasksTo ts j) wr ∧ Below gx wo wr) (fun i _ => m5 - (intOf i).toNat)
        case atStart => exact ⟨0, rfl, Nat.zero_le _, by rw [show tasksTo ts 0 = [] from rfl, List.append_nil]; exact I2.out, B2.out⟩
        case round =>
          clear I2 B2
          obtain ⟨j, rfl, hj, hi, hb⟩ := hrel
          obtain ⟨wj, rfl⟩ : ∃ wj, wj = wr := ⟨_, rfl⟩
          have IJ := qh hi
          have BJ := qh hb
          have lzj : gx ≤ wj.heap.size := by have := hb.size; omega
          have lzj1 : gx + 1 < wj.heap.size := hi.elim (fun x => x.lt) (fun x => x.lt)
          clear hi hb
          have hm14' : m5 ≤ 14 := by (have := Hrl.out; (try dsimp only at this); omega)
          have htl := tasksTo_len ts j
          by_cases hjm : j < m5
          · obtain ⟨bt, ot, Ax, mx, cx, rfl, lt, ht0, ht1, hcx, hrx⟩ := (Hr.out.below BJ.out).at_ hjm
            have hjl : j < ts.length := by (have := Hrl.out; (try dsimp only at this); omega)
            obtain ⟨⟨i1, i2⟩, hvo⟩ := Htk.out _ (getD_mem9 hjl)
            have Et := qh (tasksTo_succ hjl)
            have hl2 : (taskT (ts[j]?.getD (0, []))).length ≤ 12 := taskT_len _
            have Etk := qh (show taskT (ts[j]?.getD (0, [])) = [32] ++ decD (ts[j]?.getD (0, [])).1 ++ [58] ++ vecT (ts[j]?.getD (0, [])).2 from rfl)
            try dsimp only at ht0 ht1 hrx
            generalize ts[j]?.getD (0, []) = tj at *
            obtain ⟨tid, txs⟩ := tj
            try dsimp only at ht0 ht1 hrx i1 i2 hvo
            obtain rfl : mx = 3 := by have := hrx.len; have := vecOk_len hvo; omega
            have HX := qh hrx
            have HV := qh hvo
            clear hrx hvo
            have j1 : (0 : Int) ≤ (j : Int) := by omega
            have j2 : (j : Int) < (m5 : Int) := by omega
            have j3 : (0 : Int) ≤ (j : Int) * 2 := by omega
            have w1' : IntKind.i64.wrap ((j : Int) + 1) = (j : Int) + 1 := wr64 (by omega) (by omega)
            have hd2 := (decD_len tid).2
            have hv8 := vecT_len txs
            have a1 : ∀ W, (Op.stringOp .add ⟨#[32]⟩ (bs (decD tid))).run Tryz.prog W = .ok (.string (bs ([32] ++ decD tid))) W := add_run [32] (decD tid) (by simp; omega)
            have a2 : ∀ W, (Op.stringOp .add (bs ([32] ++ decD tid)) ⟨#[58]⟩).run Tryz.prog W = .ok (.string (bs ([32] ++ decD tid ++ [58]))) W := add_run ([32] ++ decD tid) [58] (by simp; omega)
            have a3 := add_run ([32] ++ decD tid ++ [58]) (vecT txs) (by simp; omega)
            have hfin : v1 ++ tasksTo ts j ++ ([32] ++ decD tid ++ [58] ++ vecT txs) = v1 ++ tasksTo ts (j + 1) := by rw [Et.out, Etk.out]; simp only [List.append_assoc]
            have HF := qh hfin
            have hl3 : (v1 ++ tasksTo ts j).length ≤ 3000 := by rw [List.length_append]; omega
            have hl4 : ([32] ++ decD tid ++ [58] ++ vecT txs).length ≤ 20 := by simp; omega
            clear hfin
            have HDc := qh (fun W => itoa_any tid (by omega) (by omega) W)
            generalize [32] ++ decD tid ++ [58] ++ vecT txs = x4 at *
            generalize [32] ++ decD tid ++ [58] = x3 at *
            generalize [32] ++ decD tid = x2 at *
            generalize v1 ++ tasksTo ts j = x1 at *
            generalize decD tid = dd at *
            have T5 := qh (Blk.new wj 75 #[.int .i64 tid, .slice Ax 3 cx])
            have IT := qh (Lib.IsBuilderF.alloc IJ.out (.cells #[.int .i64 tid, .slice Ax 3 cx] 75))
            have BT := qh ((Below.refl gx wj).alloc lzj (.cells #[.int .i64 tid, .slice Ax 3 cx] 75))
            have szt : (wj.alloc (.cells #[.int .i64 tid, .slice Ax 3 cx] 75)).heap.size = wj.heap.size + 1 := by simp
            go_wp2_with fail
            generalize hgt : wj.heap.size = gt at T5 szt ⊢
            generalize wj.alloc (.cells #[.int .i64 tid, .slice Ax 3 cx] 75) = wt at T5 IT BT szt ⊢
            have HXT := qh (HX.out.below BT.out)
            clear ht0 ht1
            refine wp_region_mix (.take 0 (.take 1 (.take 5 (.take 6 (.bar 2 (.take 3 (.take 4 (.bar 7 (.take 8 (.bar 9 .nil)))))))))) (fun w' => w'.cell? ⟨gt, 0, none⟩ = some (.int .i64 tid) ∧ w'.cell? ⟨gt, 1, none⟩ = some (.slice Ax 3 cx)) (by kernel_rfl) (by kernel_rfl) ⟨T5.out.cell 0, T5.out.cell 1⟩ (fun _ => ?_)
            have U0 := qh (show Blk wt.drew gt 75 _ from T5.out)
            have I0 := qh (show IsB (gx + 1) (gx + 1) x1 wt.drew from IT.out)
            have B0 := qh (show Below gx wo wt.drew from (BJ.out.trans BT.out).drew)
            have X0 := qh (show RdI wt.drew gx Ax 3 txs from HXT.out)
            have s0 : wt.drew.heap.size = gt + 1 := szt
            clear T5 IT BT szt HXT
            generalize wt.drew = u0 at U0 I0 B0 X0 s0 ⊢
            repeat ((first | refine mxS (by rfl) (by rfl) ?_ | (refine mxT (v := ?_) (by rfl) (by rfl) (fun z y => ?_) ?_; rotate_left; (focus ((try dsimp only at y); (go_simp <;> with_reducible rfl); done)))); (try simp only [Act.put,pS,pZ,pC]))
            (refine mxB (by rfl) (fun K hK => ?_); go_simp)
            refine (HDc.out u0).mono ?_; rintro e u1 ⟨rfl, hu1⟩; rw [hu1]; clear hu1 u1
            ((try dsimp only); refine nxK hK _ _ (⟨U0.out.cell 0, U0.out.cell 1⟩) ?_; clear hK K; (try simp only [Act.put,pS,pZ,pC]))
            repeat ((first | refine mxS (by rfl) (by rfl) ?_ | (refine mxT (v := ?_) (by rfl) (by rfl) (fun z y => ?_) ?_; rotate_left; (focus ((try dsimp only at y); (go_simp <;> with_reducible rfl); done)))); (try simp only [Act.put,pS,pZ,pC]))
            (refine mxB (by rfl) (fun K hK => ?_); go_simp)
            refine (text_any Ax cx txs u0 (X0.out.more (by omega)) HV.out).mono ?_; rintro e u2 ⟨rfl, hb⟩
            have U2 := qh (U0.out.below hb U0.out.lt)
            have I2 := qh (I0.out.up hb)
            have B2 := qh (B0.out.trans (hb.mono (by omega)))
            have s2 : gt + 1 ≤ u2.heap.size := by have := hb.size; omega
            clear hb U0 I0 B0 X0
            ((try dsimp only); refine nxK hK _ _ (⟨U2.out.cell 0, U2.out.cell 1⟩) ?_; clear hK K; (try simp only [Act.put,pS,pZ,pC]))
            repeat ((first | refine mxS (by rfl) (by rfl) ?_ | (refine mxT (v := ?_) (by rfl) (by rfl) (fun z y => ?_) ?_; rotate_left; (focus ((try dsimp only at y); (go_simp <;> with_reducible rfl); done)))); (try simp only [Act.put,pS,pZ,pC]))
            (refine mxB (by rfl) (fun K hK => ?_); go_simp)
            refine (writeString_k (gx + 1) (gx + 1) x1 (bs x4) u2 I2.out (by rw [bs_size]; omega) (by omega)).mono ?_; rintro e u3 ⟨rfl, hi3, hb3, ho3⟩
            rw [bs_list, HF.out] at hi3
            have U3 := qh (show Blk u3 gt 75 _ from ho3.blk U2.out (by omega) (by decide))
            have I3 := qh hi3
            have B3 := qh (B2.out.trans (hb3.mono (by omega)))
            clear hi3 hb3 ho3 U2 I2 B2
            ((try dsimp only); refine nxK hK _ _ (⟨U3.out.cell 0, U3.out.cell 1⟩) ?_; clear hK K; (try simp only [Act.put,pS,pZ,pC]))
            refine wpMix_nil ?_
            go_wp2_with fail
            go_roundw
            case measure => simp [intOf]; omega
            case rel => exact ⟨j + 1, by go_num, by omega, I3.out, B3.out⟩
          · obtain rfl : j = m5 := by omega
            have hfin : v1 ++ tasksTo ts j ++ [10] = unitsTo us (k + 1) := by
              have h1 := Eu.out
              have h2 := Hrl.out
              have h3 : headT (false, ts) = wClosed := rfl
              try dsimp only at h1 h2
              rw [Es.out, h1, h2, h3, ← HV1.out]
              simp only [List.append_assoc]
            have HF := qh hfin
            have hl3 : (v1 ++ tasksTo ts j).length ≤ 3000 := by rw [List.length_append]; omega
            clear hfin
            go_wp2_with fail
            refine (writeByte_k (gx + 1) (gx + 1) _ 10 wj IJ.out (by omega) (by omega)).mono ?_; rintro e w3 ⟨rfl, hi3, hb3, -⟩
            rw [HF.out] at hi3
            have I3 := qh hi3
            have B3 := qh (HB.out.trans (BJ.out.trans (hb3.mono (by omega))))
            clear hi3 hb3
            go_wp2_with fail
            go_roundw
            case measure => simp [intOf]; omega
            case rel => exact ⟨k + 1, by go_num, by omega, I3.out, B3.out⟩
      | true =>
        have U5 := qh (Blk.new wo 83 #[.bool true, .slice A5 m5 c5])
        have IU := qh (Lib.IsBuilderF.alloc HI.out (.cells #[.bool true, .slice A5 m5 c5] 83))
        have BU := qh ((Below.refl gx wo).alloc lz (.cells #[.bool true, .slice A5 m5 c5] 83))
        have y0 := U5.out.cell 0
        have y1 := U5.out.cell 1
        simp only [gT, gZ, gS] at y0 y1
        have szu : (wo.alloc (.cells #[.bool true, .slice A5 m5 c5] 83)).heap.size = wo.heap.size + 1 := by simp
        go_wp2_with fail
        clear y0 y1 e0 hc1 hc2
        generalize hgu : wo.heap.size = gu at U5 szu ⊢
        generalize wo.alloc (.cells #[.bool true, .slice A5 m5 c5] 83) = wu at U5 IU BU szu ⊢
        have h6 : wOpen.length ≤ 6 := (by decide)
        refine (writeString_k (gx + 1) (gx + 1) v0 (bs wOpen) wu IU.out (by rw [bs_size]; omega) (by omega)).mono ?_; rintro e w2 ⟨rfl, hi2, hb2, ho2⟩
        rw [bs_list] at hi2
        have I2 := qh hi2
        have U2 := qh (show Blk w2 gu 83 #[.bool true, .slice A5 m5 c5] from ho2.blk U5.out (by omega) (by decide))
        have B2 := qh (BU.out.trans (hb2.mono (by omega)))
        have hl1 : (v0 ++ wOpen).length ≤ 175 * k + 6 := by rw [List.length_append]; omega
        clear hi2 hb2 ho2 IU U5 BU
        have y1 := U2.out.cell 1
        simp only [gT, gZ, gS] at y1
        go_wp2_with fail
        clear y1
        generalize hv1 : v0 ++ wOpen = v1 at hl1 I2
        have HV1 := qh hv1
        clear hv1 szu U2
        go_loopw [23] (fun i wr => ∃ j : Nat, i = .int .i64 (j : Int) ∧ j ≤ m5 ∧ IsB (gx + 1) (gx + 1) (v1 ++ tasksTo ts j) wr ∧ Below gx wo wr) (fun i _ => m5 - (intOf i).toNat)
        case atStart => exact ⟨0, rfl, Nat.zero_le _, by rw [show tasksTo ts 0 = [] from rfl, List.append_nil]; exact I2.out, B2.out⟩
        case round =>
          clear I2 B2
          obtain ⟨j, rfl, hj, hi, hb⟩ := hrel
          obtain ⟨wj, rfl⟩ : ∃ wj, wj = wr := ⟨_, rfl⟩
          have IJ := qh hi
          have BJ := qh hb
          have lzj : gx ≤ wj.heap.size := by have := hb.size; omega
          have lzj1 : gx + 1 < wj.heap.size := hi.elim (fun x => x.lt) (fun x => x.lt)
          clear hi hb
          have hm14' : m5 ≤ 14 := by (have := Hrl.out; (try dsimp only at this); omega)
          have htl := tasksTo_len ts j
          by_cases hjm : j < m5
          · obtain ⟨bt, ot, Ax, mx, cx, rfl, lt, ht0, ht1, hcx, hrx⟩ := (Hr.out.below BJ.out).at_ hjm
            have hjl : j < ts.length := by (have := Hrl.out; (try dsimp only at this); omega)
            obtain ⟨⟨i1, i2⟩, hvo⟩ := Htk.out _ (getD_mem9 hjl)
            have Et := qh (tasksTo_succ hjl)
            have hl2 : (taskT (ts[j]?.getD (0, []))).length ≤ 12 := taskT_len _
            have Etk := qh (show taskT (ts[j]?.getD (0, [])) = [32] ++ decD (ts[j]?.getD (0, [])).1 ++ [58] ++ vecT (ts[j]?.getD (0, [])).2 from rfl)
            try dsimp only at ht0 ht1 hrx
            generalize ts[j]?.getD (0, []) = tj at *
            obtain ⟨tid, txs⟩ := tj
            try dsimp only at ht0 ht1 hrx i1 i2 hvo
            obtain rfl : mx = 3 := by have := hrx.len; have := vecOk_len hvo; omega
            have HX := qh hrx
            have HV := qh hvo
            clear hrx hvo
            have j1 : (0 : Int) ≤ (j : Int) := by omega
            have j2 : (j : Int) < (m5 : Int) := by omega
            have j3 : (0 : Int) ≤ (j : Int) * 2 := by omega
            have w1' : IntKind.i64.wrap ((j : Int) + 1) = (j : Int) + 1 := wr64 (by omega) (by omega)
            have hd2 := (decD_len tid).2
            have hv8 := vecT_len txs
            have a1 : ∀ W, (Op.stringOp .add ⟨#[32]⟩ (bs (decD tid))).run Tryz.prog W = .ok (.string (bs ([32] ++ decD tid))) W := add_run [32] (decD tid) (by simp; omega)
            have a2 : ∀ W, (Op.stringOp .add (bs ([32] ++ decD tid)) ⟨#[58]⟩).run Tryz.prog W = .ok (.string (bs ([32] ++ decD tid ++ [58]))) W := add_run ([32] ++ decD tid) [58] (by simp; omega)
            have a3 := add_run ([32] ++ decD tid ++ [58]) (vecT txs) (by simp; omega)
            have hfin : v1 ++ tasksTo ts j ++ ([32] ++ decD tid ++ [58] ++ vecT txs) = v1 ++ tasksTo ts (j + 1) := by rw [Et.out, Etk.out]; simp only [List.append_assoc]
            have HF := qh hfin
            have hl3 : (v1 ++ tasksTo ts j).length ≤ 3000 := by rw [List.length_append]; omega
            have hl4 : ([32] ++ decD tid ++ [58] ++ vecT txs).length ≤ 20 := by simp; omega
            clear hfin
            have HDc := qh (fun W => itoa_any tid (by omega) (by omega) W)
            generalize [32] ++ decD tid ++ [58] ++ vecT txs = x4 at *
            generalize [32] ++ decD tid ++ [58] = x3 at *
            generalize [32] ++ decD tid = x2 at *
            generalize v1 ++ tasksTo ts j = x1 at *
            generalize decD tid = dd at *
            have T5 := qh (Blk.new wj 75 #[.int .i64 tid, .slice Ax 3 cx])
            have IT := qh (Lib.IsBuilderF.alloc IJ.out (.cells #[.int .i64 tid, .slice Ax 3 cx] 75))
            have BT := qh ((Below.refl gx wj).alloc lzj (.cells #[.int .i64 tid, .slice Ax 3 cx] 75))
            have szt : (wj.alloc (.cells #[.int .i64 tid, .slice Ax 3 cx] 75)).heap.size = wj.heap.size + 1 := by simp
            go_wp2_with fail
            generalize hgt : wj.heap.size = gt at T5 szt ⊢
            generalize wj.alloc (.cells #[.int .i64 tid, .slice Ax 3 cx] 75) = wt at T5 IT BT szt ⊢
            have HXT := qh (HX.out.below BT.out)
            clear ht0 ht1
            refine wp_region_mix (.take 0 (.take 1 (.take 5 (.take 6 (.bar 2 (.take 3 (.take 4 (.bar 7 (.take 8 (.bar 9 .nil)))))))))) (fun w' => w'.cell? ⟨gt, 0, none⟩ = some (.int .i64 tid) ∧ w'.cell? ⟨gt, 1, none⟩ = some (.slice Ax 3 cx)) (by kernel_rfl) (by kernel_rfl) ⟨T5.out.cell 0, T5.out.cell 1⟩ (fun _ => ?_)
            have U0 := qh (show Blk wt.drew gt 75 _ from T5.out)
            have I0 := qh (show IsB (gx + 1) (gx + 1) x1 wt.drew from IT.out)
            have B0 := qh (show Below gx wo wt.drew from (BJ.out.trans BT.out).drew)
            have X0 := qh (show RdI wt.drew gx Ax 3 txs from HXT.out)
            have s0 : wt.drew.heap.size = gt + 1 := szt
            clear T5 IT BT szt HXT
            generalize wt.drew = u0 at U0 I0 B0 X0 s0 ⊢
            repeat ((first | refine mxS (by rfl) (by rfl) ?_ | (refine mxT (v := ?_) (by rfl) (by rfl) (fun z y => ?_) ?_; rotate_left; (focus ((try dsimp only at y); (go_simp <;> with_reducible rfl); done)))); (try simp only [Act.put,pS,pZ,pC]))
            (refine mxB (by rfl) (fun K hK => ?_); go_simp)
            refine (HDc.out u0).mono ?_; rintro e u1 ⟨rfl, hu1⟩; rw [hu1]; clear hu1 u1
            ((try dsimp only); refine nxK hK _ _ (⟨U0.out.cell 0, U0.out.cell 1⟩) ?_; clear hK K; (try simp only [Act.put,pS,pZ,pC]))
            repeat ((first | refine mxS (by rfl) (by rfl) ?_ | (refine mxT (v := ?_) (by rfl) (by rfl) (fun z y => ?_) ?_; rotate_left; (focus ((try dsimp only at y); (go_simp <;> with_reducible rfl); done)))); (try simp only [Act.put,pS,pZ,pC]))
            (refine mxB (by rfl) (fun K hK => ?_); go_simp)
            refine (text_any Ax cx txs u0 (X0.out.more (by omega)) HV.out).mono ?_; rintro e u2 ⟨rfl, hb⟩
            have U2 := qh (U0.out.below hb U0.out.lt)
            have I2 := qh (I0.out.up hb)
            have B2 := qh (B0.out.trans (hb.mono (by omega)))
            have s2 : gt + 1 ≤ u2.heap.size := by have := hb.size; omega
            clear hb U0 I0 B0 X0
            ((try dsimp only); refine nxK hK _ _ (⟨U2.out.cell 0, U2.out.cell 1⟩) ?_; clear hK K; (try simp only [Act.put,pS,pZ,pC]))
            repeat ((first | refine mxS (by rfl) (by rfl) ?_ | (refine mxT (v := ?_) (by rfl) (by rfl) (fun z y => ?_) ?_; rotate_left; (focus ((try dsimp only at y); (go_simp <;> with_reducible rfl); done)))); (try simp only [Act.put,pS,pZ,pC]))
            (refine mxB (by rfl) (fun K hK => ?_); go_simp)
            refine (writeString_k (gx + 1) (gx + 1) x1 (bs x4) u2 I2.out (by rw [bs_size]; omega) (by omega)).mono ?_; rintro e u3 ⟨rfl, hi3, hb3, ho3⟩
            rw [bs_list, HF.out] at hi3
            have U3 := qh (show Blk u3 gt 75 _ from ho3.blk U2.out (by omega) (by decide))
            have I3 := qh hi3
            have B3 := qh (B2.out.trans (hb3.mono (by omega)))
            clear hi3 hb3 ho3 U2 I2 B2
            ((try dsimp only); refine nxK hK _ _ (⟨U3.out.cell 0, U3.out.cell 1⟩) ?_; clear hK K; (try simp only [Act.put,pS,pZ,pC]))
            refine wpMix_nil ?_
            go_wp2_with fail
            go_roundw
            case measure => simp [intOf]; omega
            case rel => exact ⟨j + 1, by go_num, by omega, I3.out, B3.out⟩
          · obtain rfl : j = m5 := by omega
            have hfin : v1 ++ tasksTo ts j ++ [10] = unitsTo us (k + 1) := by
              have h1 := Eu.out
              have h2 := Hrl.out
              have h3 : headT (true, ts) = wOpen := rfl
              try dsimp only at h1 h2
              rw [Es.out, h1, h2, h3, ← HV1.out]
              simp only [List.append_assoc]
            have HF := qh hfin
            have hl3 : (v1 ++ tasksTo ts j).length ≤ 3000 := by rw [List.length_append]; omega
            clear hfin
            go_wp2_with fail
            refine (writeByte_k (gx + 1) (gx + 1) _ 10 wj IJ.out (by omega) (by omega)).mono ?_; rintro e w3 ⟨rfl, hi3, hb3, -⟩
            rw [HF.out] at hi3
            have I3 := qh hi3
            have B3 := qh (HB.out.trans (BJ.out.trans (hb3.mono (by omega))))
            clear hi3 hb3
            go_wp2_with fail
            go_roundw
            case measure => simp [intOf]; omega
            case rel => exact ⟨k + 1, by go_num, by omega, I3.out, B3.out⟩
    · obtain rfl : k = n2 := by omega
      have Ew := qh (show unitsTo us k = showT us from by unfold unitsTo; rw [List.take_of_length_le (by have := Hl.out; omega)])
      go_wp2_with fail
      refine (builderString_k (gx + 1) (gx + 1) _ wo HI.out (by omega)).mono ?_; rintro e w9 ⟨rfl, hb9⟩
      have B9 := qh (HB.out.trans (hb9.mono (by omega)))
      clear hb9
      rw [Ew.out]
      go_wp2_with fail
      refine bodyPost_ret (v := .string (bs (showT us))) (by simp [results, Tryz.results42, go_sem, bs]) rfl ⟨rfl, by rw [hgx]; exact B9.out⟩
end Go.Proofs.YtdkhdfedejbicaaGreatDoor
