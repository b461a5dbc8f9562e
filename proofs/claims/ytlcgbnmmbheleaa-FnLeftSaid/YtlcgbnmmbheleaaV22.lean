/- Several texts in one. -/
import Derived.Test.YtlcgbnmmbheleaaV21
namespace Go.Proofs.Ytlcgbnmmbheleaa
set_option linter.unusedSimpArgs false
set_option linter.unusedVariables false
open Go Go.RowKit

def leftV (room : List Int) (u : Un) : Int := room.sum - (loadP u.2).sum
theorem leftV_bd {room : List Int} {us : List Un} (h : clOk room us = true) (k : Nat) : -3000000 ≤ leftV room (us[k]?.getD (false, [])) ∧ leftV room (us[k]?.getD (false, [])) ≤ 60 := by
  obtain ⟨hu, h3, hb, _⟩ := uok_of h
  have l0 := loads_bd hu k 0
  have l1 := loads_bd hu k 1
  have l2 := loads_bd hu k 2
  have b0 := hb 0
  have b1 := hb 1
  have b2 := hb 2
  unfold leftV
  rw [sum3 h3, sum3 (loadP_len _)]
  omega

set_option maxRecDepth 100000 in
set_option maxHeartbeats 1600000 in
theorem l33Left_any (A1 A2 : Option Addr) (n1 c1 n2 c2 : Nat) (room : List Int) (us : List Un) (k : Nat) (w : World) (h : RdC w A1 A2 n1 n2 room us) (hok : clOk room us = true) (hk : k < n2) :
    Calls Try.prog 25 #[.agg #[.slice A1 n1 c1, .slice A2 n2 c2], .int .i64 k] w fun e w' => e = .returned (.int .i64 (leftV room (us[k]?.getD (false, [])))) ∧ Below w.heap.size w w' := by
  obtain ⟨hu, h3, hb, _⟩ := uok_of hok
  have hbd := leftV_bd hok k
  have l0 := loads_bd hu k
  have hul := h.b.len
  have hul2 := hu.len
  obtain rfl : n1 = 3 := by have := h.a.len; omega
  have k1 : (0 : Int) ≤ (k : Int) := by omega
  have k2 : (k : Int) < (n2 : Int) := by omega
  have k3 : 0 ≤ (k : Int) * 2 := by omega
  have B1 := qh (alloc_up w (.cells #[.slice A1 3 c1, .slice A2 n2 c2] 26))
  have R1 := qh (h.up B1.out)
  have P1 := qh (Blk.new w 26 #[.slice A1 3 c1, .slice A2 n2 c2])
  have Hu := qh hu
  have Hb := qh hb
  have L0 := qh l0
  have H3 := qh h3
  clear h hu hb h3 l0 hul hok
  go_enter Try.func25, Try.ntmps25
  go_wp2_with fail
  generalize hgb : w.heap.size = gb at P1 B1 ⊢
  generalize w.alloc (.cells #[.slice A1 3 c1, .slice A2 n2 c2] 26) = w1 at B1 R1 P1 ⊢
  obtain ⟨b, o, Ak, mk, ck, rfl, lb, e0, e1, hmk, hrd⟩ := R1.out.b.at_ hk
  have E1 := qh e1
  have y0 := P1.out.cell 0
  have y1 := P1.out.cell 1
  simp only [gT, gZ, gS] at y0 y1
  have Hrd := qh hrd
  clear hrd hmk
  have hn9 := Hu.out.n900 k
  have hn3' := Hu.out.n3 k
  have hnb' := Hu.out.nb k
  have hml' := Hrd.out.len
  have hl0 := L0.out
  have hrd := Hrd.out
  obtain ⟨op, ts, hue⟩ : ∃ op ts, us[k]?.getD (false, []) = (op, ts) := ⟨_, _, rfl⟩
  rw [hue] at e0 hn9 hbd hml' hrd
  simp only [hue] at hn3' hnb' hl0
  have Hue := qh hue
  clear hue Hrd L0
  dsimp only at e0 hrd hn9 hn3' hnb' hl0 hbd hml'
  have Hrd := qh hrd
  have Hn3 := qh hn3'
  have Hnb := qh hnb'
  have L0 := qh hl0
  have hml := qh hml'
  clear hrd hn3' hnb' hl0 hml'
  have lgb : gb < w1.heap.size := P1.out.lt
  refine wp_region_mix (.take 0 (.take 1 (.take 3 (.take 4 (.take 5 (.take 6 (.take 7 (.take 8 (.bar 2 (.bar 9 (.bar 10 (.take 11 (.take 12 .nil))))))))))))) (fun w' => w'.cell? ⟨gb, 0, none⟩ = some (.slice A1 3 c1) ∧ w'.cell? ⟨gb, 1, none⟩ = some (.slice (some ⟨b, o, none⟩) n2 c2) ∧ w'.cell? ⟨b, o + k * 2 + 1, none⟩ = some (.slice Ak mk ck)) (by kernel_rfl) (by kernel_rfl) ⟨y0, y1, e1⟩ (fun _ => ?_)
  clear y0 y1 e0 e1
  have B2 := qh B1.out.drew
  have R2 := qh (R1.out.up ((Below.refl _ _).drew))
  have P2 := qh P1.out.drew
  have Hrd2 := qh (Hrd.out.up ((Below.refl _ _).drew))
  have E2 := qh (show w1.drew.cell? ⟨b, o + k * 2 + 1, none⟩ = some (.slice Ak mk ck) from E1.out)
  have lgb2 : gb < w1.drew.heap.size := lgb
  have lb2 : b < w1.drew.heap.size := lb
  clear B1 R1 P1 Hrd E1 lgb lb
  generalize w1.drew = w2 at B2 R2 P2 Hrd2 E2 lgb2 lb2 ⊢
  repeat ((first | refine mxS (by rfl) (by rfl) ?_ | (refine mxT (v := ?_) (by rfl) (by rfl) (fun z y => ?_) ?_; rotate_left; (focus ((try dsimp only at y); (go_simp <;> with_reducible rfl); done)))); (try simp only [Act.put,pS,pZ,pC]))
  (refine mxB (by rfl) (fun K hK => ?_); go_simp)
  refine (l4Sum_any A1 3 c1 _ room w2 R2.out.a (by omega) (fun j => by have := Hb.out j; omega)).mono ?_; rintro e w3 ⟨rfl, rfl⟩
  ((try dsimp only); refine nxK hK _ _ (⟨P2.out.cell 0, P2.out.cell 1, E2.out⟩) ?_; clear hK K; (try simp only [Act.put,pS,pZ,pC]))
  (refine mxB (by rfl) (fun K hK => ?_); go_simp)
  refine (l2Load_any Ak mk ck ts w2 Hrd2.out (by have := hml.out; omega) (fun j hj => Hn3.out j (by have := hml.out; omega)) Hnb.out).mono ?_; rintro e w3 ⟨A3, c3, rfl, hr3, hb3⟩
  have B3 := qh (B2.out.trans (hb3.mono (by omega)))
  have P3 := qh (P2.out.below hb3 lgb2)
  have E3 := qh ((hb3.cell (p := ⟨b, o + k * 2 + 1, none⟩) lb2).trans E2.out)
  have R3 := qh hr3
  clear hb3 hr3
  ((try dsimp only); refine nxK hK _ _ (⟨P3.out.cell 0, P3.out.cell 1, E3.out⟩) ?_; clear hK K; (try simp only [Act.put,pS,pZ,pC]))
  (refine mxB (by rfl) (fun K hK => ?_); go_simp)
  refine (l4Sum_any A3 3 c3 _ (loadP ts) w3 R3.out (by omega) (fun j => by have := L0.out j; omega)).mono ?_; rintro e w4 ⟨rfl, rfl⟩
  ((try dsimp only); refine nxK hK _ _ (⟨P3.out.cell 0, P3.out.cell 1, E3.out⟩) ?_; clear hK K; (try simp only [Act.put,pS,pZ,pC]))
  have hsub : IntKind.i64.wrap (room.sum - (loadP ts).sum) = room.sum - (loadP ts).sum := by
    unfold leftV at hbd
    dsimp only at hbd
    exact wr64 (by omega) (by omega)
  repeat ((first | refine mxS (by rfl) (by rfl) ?_ | (refine mxT (v := ?_) (by rfl) (by rfl) (fun z y => ?_) ?_; rotate_left; (focus ((try dsimp only at y); (go_simp <;> with_reducible rfl); done)))); (try simp only [Act.put,pS,pZ,pC]))
  refine wpMix_nil ?_
  go_wp2_with fail
  go_ret
  exact ⟨ret_int (by rw [Hue.out]; rfl), hgb ▸ B3.out⟩

def leftTo (room : List Int) (us : List Un) : Nat → Int
  | 0 => 0
  | k + 1 => leftTo room us k + (if (us[k]?.getD (false, [])).1 then leftV room (us[k]?.getD (false, [])) else 0)
def leftP' (room : List Int) (us : List Un) : Int := if clOk room us = true then leftTo room us us.length else -1
theorem leftTo_bd {room : List Int} {us : List Un} (h : clOk room us = true) : ∀ k : Nat, -(3000000 * (k : Int)) ≤ leftTo room us k ∧ leftTo room us k ≤ 3000000 * k
  | 0 => by simp [leftTo]
  | k + 1 => by
    have ih := leftTo_bd h k
    have hb := leftV_bd h k
    unfold leftTo
    split <;> omega
def bestU (room : List Int) (us : List Un) : Nat → Int
  | 0 => -1
  | k + 1 => if (us[k]?.getD (false, [])).1 = true ∧ (bestU room us k < 0 ∨ leftV room (us[k]?.getD (false, [])) > leftV room (us[(bestU room us k).toNat]?.getD (false, []))) then (k : Int) else bestU room us k
def loosestS (room : List Int) (us : List Un) : Int := if clOk room us = true then bestU room us us.length else -1
theorem bestU_bd (room : List Int) (us : List Un) : ∀ k : Nat, -1 ≤ bestU room us k ∧ bestU room us k < k
  | 0 => by simp [bestU]
  | k + 1 => by
    have ih := bestU_bd room us k
    unfold bestU
    split <;> omega

set_option maxRecDepth 100000 in
set_option maxHeartbeats 1600000 in
theorem usageLeftS_any (A1 A2 : Option Addr) (n1 c1 n2 c2 : Nat) (room : List Int) (us : List Un) (w : World) (h : RdC w A1 A2 n1 n2 room us) (hs : ShU us) :
    Calls Try.prog 13 #[.agg #[.slice A1 n1 c1, .slice A2 n2 c2]] w fun e w' => e = .returned (.int .i64 (leftP' room us)) ∧ Below w.heap.size w w' := by
  have hul := qh h.b.len
  have B1 := qh (alloc_up w (.cells #[.slice A1 n1 c1, .slice A2 n2 c2] 26))
  have R1 := qh (h.up B1.out)
  have P1 := qh (Blk.new w 26 #[.slice A1 n1 c1, .slice A2 n2 c2])
  have Hs := qh hs
  have x0 := P1.out.cell 0
  have x1 := P1.out.cell 1
  simp only [gT, gZ, gS] at x0 x1
  clear h hs
  go_enter Try.func13, Try.ntmps13
  go_wp2_with fail
  clear x0 x1
  generalize hgb : w.heap.size = gb at P1 ⊢
  have Hgb := qh hgb
  clear hgb
  generalize w.alloc (.cells #[.slice A1 n1 c1, .slice A2 n2 c2] 26) = w1 at B1 R1 P1 ⊢
  refine (clusterValidS_any A1 A2 n1 c1 n2 c2 room us w1 R1.out Hs.out).mono ?_; rintro e w2 ⟨rfl, hb2⟩
  have B2 := qh (below_to B1.out hb2)
  have R2 := qh (R1.out.up hb2)
  have P2 := qh (P1.out.below hb2 P1.out.lt)
  clear hb2 B1 R1 P1
  cases hok : clOk room us with
  | false =>
    have Hok := qh hok
    clear hok
    go_wp2_with fail
    go_ret
    exact ⟨ret_int (by unfold leftP'; rw [if_neg (by rw [Hok.out]; simp)]), B2.out⟩
  | true =>
    have Hok := qh hok
    clear hok
    have hn2 : n2 ≤ 10 := by have := (clOk_facts Hok.out).2.2.1; have := hul.out; omega
    go_wp2_with fail
    go_loopw [3, 4] (fun s i wr => ∃ k : Nat, i = .int .i64 k ∧ k ≤ n2 ∧ s = .int .i64 (leftTo room us k) ∧ Below w2.heap.size w2 wr) (fun _ i _ => n2 - (intOf i).toNat)
    case atStart => exact ⟨0, rfl, Nat.zero_le _, rfl, Below.refl _ _⟩
    case round =>
      obtain ⟨k, rfl, hk, rfl, hbr⟩ := hrel
      have HB := qh hbr
      clear hbr
      have Pr := qh (P2.out.below HB.out P2.out.lt)
      have y0 := Pr.out.cell 0
      have y1 := Pr.out.cell 1
      simp only [gT, gZ, gS] at y0 y1
      by_cases hlt : k < n2
      · have k1 : (0 : Int) ≤ (k : Int) := by omega
        have k2 : (k : Int) < (n2 : Int) := by omega
        have k3 : 0 ≤ (k : Int) * 2 := by omega
        have Rr := qh (R2.out.up HB.out)
        obtain ⟨b, o, Ak, mk, ck, rfl, lb, e0, e1, hmk, hrd⟩ := Rr.out.b.at_ hlt
        have hbd := leftTo_bd Hok.out k
        have hbv := leftV_bd Hok.out k
        have E := qh (show leftTo room us (k + 1) = leftTo room us k + (if (us[k]?.getD (false, [])).1 then leftV room (us[k]?.getD (false, [])) else 0) from rfl)
        have v1 : IntKind.i64.wrap ((k : Int) + 1) = (k : Int) + 1 := wr64 (by omega) (by omega)
        have v2 : IntKind.i64.wrap (leftTo room us k + leftV room (us[k]?.getD (false, []))) = leftTo room us k + leftV room (us[k]?.getD (false, [])) := wr64 (by omega) (by omega)
        clear hrd hmk e1 hbd hbv
        have hcall := qh (fun (W : World) (hW : RdC W A1 (some ⟨b, o, none⟩) n1 n2 room us) => l33Left_any A1 (some ⟨b, o, none⟩) n1 c1 n2 c2 room us k W hW Hok.out hlt)
        generalize leftTo room us k = s at E v2 ⊢
        generalize leftV room (us[k]?.getD (false, [])) = lv at E v2 hcall
        cases hop : (us[k]?.getD (false, [])).1 with
        | false =>
          rw [hop] at e0 E
          go_wp2_with fail
          go_roundw
          case rel => exact ⟨k + 1, by go_num, by omega, by rw [E.out]; simp, HB.out⟩
          case measure => simp [intOf]; omega
        | true =>
          rw [hop] at e0 E
          go_wp2_with fail
          refine (hcall.out wr Rr.out).mono ?_; rintro e w4 ⟨rfl, hb4⟩
          have HB4 := qh (below_to HB.out hb4)
          clear hb4
          go_wp2_with fail
          go_roundw
          case rel => exact ⟨k + 1, by go_num, by omega, by rw [E.out]; simp, HB4.out⟩
          case measure => simp [intOf]; omega
      · obtain rfl : k = n2 := by omega
        have E0 := qh (show leftP' room us = leftTo room us k from by unfold leftP'; rw [if_pos Hok.out, hul.out])
        go_wp2_with fail
        go_ret
        exact ⟨ret_int (by rw [E0.out]), below_to B2.out HB.out⟩

set_option maxRecDepth 100000 in
set_option maxHeartbeats 3200000 in
theorem usageLoosestS_any (A1 A2 : Option Addr) (n1 c1 n2 c2 : Nat) (room : List Int) (us : List Un) (w : World) (h : RdC w A1 A2 n1 n2 room us) (hs : ShU us) :
    Calls Try.prog 8 #[.agg #[.slice A1 n1 c1, .slice A2 n2 c2]] w fun e w' => e = .returned (.int .i64 (loosestS room us)) ∧ Below w.heap.size w w' := by
  have hul := qh h.b.len
  have B2 := qh (alloc_up w (.cells #[.slice A1 n1 c1, .slice A2 n2 c2] 26))
  have R2 := qh (h.up B2.out)
  have P2 := qh (Blk.new w 26 #[.slice A1 n1 c1, .slice A2 n2 c2])
  have Hs := qh hs
  have hn2 : n2 ≤ 1000 := by have := hs.1; have := hul.out; omega
  clear h hs
  go_enter Try.func8, Try.ntmps8
  go_wp2_with fail
  generalize hgb : w.heap.size = gb at P2 ⊢
  have Hgb := qh hgb
  clear hgb
  generalize w.alloc (.cells #[.slice A1 n1 c1, .slice A2 n2 c2] 26) = w2 at B2 R2 P2 ⊢
  go_loopw [3, 4] (fun s i wr => ∃ k : Nat, i = .int .i64 k ∧ k ≤ n2 ∧ s = .int .i64 (bestU room us k) ∧ Below w2.heap.size w2 wr ∧ (k = 0 ∨ clOk room us = true)) (fun _ i _ => n2 - (intOf i).toNat)
  case atStart => exact ⟨0, rfl, Nat.zero_le _, rfl, Below.refl _ _, .inl rfl⟩
  case round =>
    obtain ⟨k, rfl, hk, rfl, hbr, hkv⟩ := hrel
    have HB := qh hbr
    have Hkv := qh hkv
    clear hbr hkv
    have Pr := qh (P2.out.below HB.out P2.out.lt)
    have y0 := Pr.out.cell 0
    have y1 := Pr.out.cell 1
    simp only [gT, gZ, gS] at y0 y1
    have Rr := qh (R2.out.up HB.out)
    by_cases hlt : k < n2
    · have k1 : (0 : Int) ≤ (k : Int) := by omega
      have k2 : (k : Int) < (n2 : Int) := by omega
      have k3 : 0 ≤ (k : Int) * 2 := by omega
      go_wp2_with fail
      clear y0 y1
      refine (clusterValidS_any A1 A2 n1 c1 n2 c2 room us wr Rr.out Hs.out).mono ?_; rintro e w4 ⟨rfl, hb4⟩
      have HB4 := qh (below_to HB.out hb4)
      have P4 := qh (Pr.out.below hb4 Pr.out.lt)
      have R4 := qh (Rr.out.up hb4)
      clear hb4 HB Pr Rr
      cases hok : clOk room us with
      | false =>
        have hk0 : k = 0 := Hkv.out.resolve_right (by rw [hok]; simp)
        have Hok := qh hok
        have Hk0 := qh hk0
        clear hok hk0
        generalize hbv : bestU room us k = bk
        have Hbv := qh hbv
        clear hbv
        go_wp2_with fail
        go_ret
        refine ⟨ret_int ?_, below_to B2.out HB4.out⟩
        rw [← Hbv.out, Hk0.out]
        unfold loosestS
        rw [if_neg (by rw [Hok.out]; simp)]
        rfl
      | true =>
        have Hok := qh hok
        clear hok
        obtain ⟨b, o, Ak, mk, ck, rfl, lb, e0, e1, hmk, hrd⟩ := R4.out.b.at_ hlt
        have E0 := qh e0
        clear e0 e1 hmk hrd
        have hbb := bestU_bd room us k
        have v1 : IntKind.i64.wrap ((k : Int) + 1) = (k : Int) + 1 := wr64 (by omega) (by omega)
        have E := qh (show bestU room us (k + 1) = if (us[k]?.getD (false, [])).1 = true ∧ (bestU room us k < 0 ∨ leftV room (us[k]?.getD (false, [])) > leftV room (us[(bestU room us k).toNat]?.getD (false, []))) then (k : Int) else bestU room us k from rfl)
        have hcall := qh (fun (j : Nat) (hj : j < n2) (W : World) (hW : RdC W A1 (some ⟨b, o, none⟩) n1 n2 room us) => l33Left_any A1 (some ⟨b, o, none⟩) n1 c1 n2 c2 room us j W hW Hok.out hj)
        generalize bestU room us k = bk at E hbb ⊢
        generalize hop : (us[k]?.getD (false, [])).1 = op at E0 E
        clear hop
        have z0 := P4.out.cell 0
        have z1 := P4.out.cell 1
        simp only [gT, gZ, gS] at z0 z1
        cases op with
        | false =>
          go_wp2_with fail
          refine wp_region_mix (.take 0 (.take 1 (.take 2 (.take 3 (.take 4 (.take 5 (.take 6 (.take 7 (.take 8 (.take 9 (.take 10 (.take 11 (.take 12 (.take 13 (.take 14 (.take 15 (.take 16 (.take 17 (.take 18 .nil))))))))))))))))))) (fun w' => w'.cell? ⟨gb, 0, none⟩ = some (.slice A1 n1 c1) ∧ w'.cell? ⟨gb, 1, none⟩ = some (.slice (some ⟨b, o, none⟩) n2 c2) ∧ w'.cell? ⟨b, o + k * 2, none⟩ = some (.bool false)) (by kernel_rfl) (by kernel_rfl) ⟨z0, z1, E0.out⟩ (fun _ => ?_)
          clear z0 z1
          repeat ((first | refine mxS (by rfl) (by rfl) ?_ | (refine mxT (v := ?_) (by rfl) (by rfl) (fun z y => ?_) ?_; rotate_left; (focus ((try dsimp only at y); (go_simp <;> with_reducible rfl); done)))); (try simp only [Act.put,pS,pZ,pC]))
          refine wpMix_nil ?_
          go_wp2_with fail
          go_roundw
          case rel => exact ⟨k + 1, by go_num, by omega, by rw [E.out, if_neg (by simp)], HB4.out.drew, .inr Hok.out⟩
          case measure => simp [intOf]; omega
        | true =>
          by_cases hb0 : bk < 0
          · have Hb0 := qh hb0
            have q0 : decide (bk < 0) = true := decide_eq_true hb0
            clear hb0
            go_wp2_with fail
            refine wp_region_mix (.take 0 (.take 1 (.take 2 (.take 3 (.take 4 (.take 5 (.take 6 (.take 7 (.take 8 (.take 9 (.take 10 (.take 11 (.take 12 (.take 13 (.take 14 (.take 15 (.take 16 (.take 17 (.take 18 .nil))))))))))))))))))) (fun w' => w'.cell? ⟨gb, 0, none⟩ = some (.slice A1 n1 c1) ∧ w'.cell? ⟨gb, 1, none⟩ = some (.slice (some ⟨b, o, none⟩) n2 c2) ∧ w'.cell? ⟨b, o + k * 2, none⟩ = some (.bool true)) (by kernel_rfl) (by kernel_rfl) ⟨z0, z1, E0.out⟩ (fun _ => ?_)
            clear z0 z1
            repeat ((first | refine mxS (by rfl) (by rfl) ?_ | (refine mxT (v := ?_) (by rfl) (by rfl) (fun z y => ?_) ?_; rotate_left; (focus ((try dsimp only at y); (go_simp <;> with_reducible rfl); done)))); (try simp only [Act.put,pS,pZ,pC]))
            refine wpMix_nil ?_
            go_wp2_with fail
            go_roundw
            case rel => exact ⟨k + 1, by go_num, by omega, by rw [E.out, if_pos ⟨by trivial, .inl Hb0.out⟩], HB4.out.drew, .inr Hok.out⟩
            case measure => simp [intOf]; omega
          · obtain ⟨j, rfl⟩ : ∃ j : Nat, bk = (j : Int) := ⟨bk.toNat, by omega⟩
            have hjn : j < n2 := by omega
            have q0 : decide ((j : Int) < 0) = false := decide_eq_false hb0
            have Hb0 := qh hb0
            clear hb0 hbb
            rw [Int.toNat_natCast] at E
            go_wp2_with fail
            refine wp_region_mix (.take 0 (.take 1 (.take 2 (.take 3 (.take 4 (.take 5 (.take 6 (.take 7 (.take 8 (.take 9 (.take 10 (.take 11 (.take 13 (.take 14 (.bar 12 (.bar 15 (.take 16 (.take 17 (.take 18 .nil))))))))))))))))))) (fun w' => w'.cell? ⟨gb, 0, none⟩ = some (.slice A1 n1 c1) ∧ w'.cell? ⟨gb, 1, none⟩ = some (.slice (some ⟨b, o, none⟩) n2 c2) ∧ w'.cell? ⟨b, o + k * 2, none⟩ = some (.bool true)) (by kernel_rfl) (by kernel_rfl) ⟨z0, z1, E0.out⟩ (fun _ => ?_)
            clear z0 z1
            have B5 := qh HB4.out.drew
            have P5 := qh P4.out.drew
            have R5 := qh (R4.out.up ((Below.refl _ _).drew))
            have E5 := qh (show w4.drew.cell? ⟨b, o + k * 2, none⟩ = some (.bool true) from E0.out)
            have lb5 : b < w4.drew.heap.size := lb
            clear HB4 P4 R4 E0 lb
            generalize w4.drew = w5 at B5 P5 R5 E5 lb5 ⊢
            repeat ((first | refine mxS (by rfl) (by rfl) ?_ | (refine mxT (v := ?_) (by rfl) (by rfl) (fun z y => ?_) ?_; rotate_left; (focus ((try dsimp only at y); (go_simp <;> with_reducible rfl); done)))); (try simp only [Act.put,pS,pZ,pC]))
            (refine mxB (by rfl) (fun K hK => ?_); go_simp)
            refine (hcall.out k hlt w5 R5.out).mono ?_; rintro e w6 ⟨rfl, hb6⟩
            have B6 := qh (below_to B5.out hb6)
            have P6 := qh (P5.out.below hb6 P5.out.lt)
            have R6 := qh (R5.out.up hb6)
            have E6 := qh ((hb6.cell (p := ⟨b, o + k * 2, none⟩) lb5).trans E5.out)
            have lb6 := Nat.lt_of_lt_of_le lb5 hb6.size
            clear hb6 B5 P5 R5 E5 lb5
            ((try dsimp only); refine nxK hK _ _ (⟨P6.out.cell 0, P6.out.cell 1, E6.out⟩) ?_; clear hK K; (try simp only [Act.put,pS,pZ,pC]))
            (refine mxB (by rfl) (fun K hK => ?_); go_simp)
            refine (hcall.out j hjn w6 R6.out).mono ?_; rintro e w7 ⟨rfl, hb7⟩
            have B7 := qh (below_to B6.out hb7)
            have P7 := qh (P6.out.below hb7 P6.out.lt)
            have E7 := qh ((hb7.cell (p := ⟨b, o + k * 2, none⟩) lb6).trans E6.out)
            clear hb7 B6 P6 R6 E6 lb6
            ((try dsimp only); refine nxK hK _ _ (⟨P7.out.cell 0, P7.out.cell 1, E7.out⟩) ?_; clear hK K; (try simp only [Act.put,pS,pZ,pC]))
            generalize leftV room (us[k]?.getD (false, [])) = la at E ⊢
            generalize leftV room (us[j]?.getD (false, [])) = lj at E ⊢
            by_cases hgt : lj < la
            · have q1 : decide (lj < la) = true := decide_eq_true hgt
              have Hgt := qh hgt
              clear hgt
              repeat ((first | refine mxS (by rfl) (by rfl) ?_ | (refine mxT (v := ?_) (by rfl) (by rfl) (fun z y => ?_) ?_; rotate_left; (focus ((try dsimp only at y); (go_simp <;> with_reducible rfl); done)))); (try simp only [Act.put,pS,pZ,pC]))
              refine wpMix_nil ?_
              go_wp2_with fail
              go_roundw
              case rel => exact ⟨k + 1, by go_num, by omega, by rw [E.out, if_pos ⟨by trivial, .inr Hgt.out⟩], B7.out, .inr Hok.out⟩
              case measure => simp [intOf]; omega
            · have q1 : decide (lj < la) = false := decide_eq_false hgt
              have Hgt := qh hgt
              clear hgt
              repeat ((first | refine mxS (by rfl) (by rfl) ?_ | (refine mxT (v := ?_) (by rfl) (by rfl) (fun z y => ?_) ?_; rotate_left; (focus ((try dsimp only at y); (go_simp <;> with_reducible rfl); done)))); (try simp only [Act.put,pS,pZ,pC]))
              refine wpMix_nil ?_
              go_wp2_with fail
              go_roundw
              case rel => exact ⟨k + 1, by go_num, by omega, by rw [E.out, if_neg (fun hh => hh.2.elim (fun x => by have := Hb0.out; omega) Hgt.out)], B7.out, .inr Hok.out⟩
              case measure => simp [intOf]; omega
    · obtain rfl : k = n2 := by omega
      have E0 := qh (show loosestS room us = bestU room us k from by
        unfold loosestS
        rcases Hkv.out with e | e
        · subst e
          split
          · rw [hul.out]
          · rfl
        · rw [if_pos e, hul.out])
      generalize bestU room us k = bk at E0 ⊢
      go_wp2_with fail
      go_ret
      exact ⟨ret_int (by rw [E0.out]), below_to B2.out HB.out⟩
end Go.Proofs.Ytlcgbnmmbheleaa

namespace Go.Proofs.Ytlcgbnmmbheleaa
open Go Go.RowKit
attribute [local go_sem ↓] Go.wp_at_zero Go.wp_at_succ

set_option maxRecDepth 100000 in
set_option maxHeartbeats 1600000 in
theorem bins_any (A1 A2 : Option Addr) (n1 c1 n2 c2 : Nat) (us : List Un) (w : World) (h : RdN w w.heap.size A2 n2 us) (hn : n2 ≤ 1048576) :
    Calls Try.prog 42 #[.agg #[.slice A1 n1 c1, .slice A2 n2 c2]] w fun e w' => ∃ A' m c', e = .returned (.slice A' m c') ∧ RdB w' w'.heap.size A' m (us.map (·.2)) ∧ Below w.heap.size w w' := by
  obtain ⟨i0, hi0, hz0, hz1, hz2⟩ := info_parts slice_info'
  have hl := qh h.len
  have H := qh h
  clear h
  have hmk := fun W : World => run_make (P := Try.prog) W 51 31 i0 _ Try.underlying51 hi0 hz0 .i64 .i64 0 n2 (by omega) (by omega) (by rw [hz2]; omega) (by omega)
  simp only [Int.toNat_natCast, Int.toNat_zero, hz1, Nat.mul_one] at hmk
  have hcells : (madeCells (Value.slice none 0 0).cells n2).size = n2 * 1 := by
    show (madeCells #[.slice none 0 0] n2).size = _
    have : (madeCells #[.slice none 0 0] n2).toList.length = n2 := by rw [toList_madeCells_one]; simp
    simpa using this
  have sz : (w.alloc (.cells #[.slice A1 n1 c1, .slice A2 n2 c2] 26)).heap.size = w.heap.size + 1 := World.size_alloc _ _
  generalize madeCells (Value.slice none 0 0).cells n2 = mc at hmk hcells
  have P2 := qh ((Blk.new w 26 #[.slice A1 n1 c1, .slice A2 n2 c2]).alloc (.cells mc 31))
  have hO := World.ownsRow_made (base := w.heap.size) (e := 31) (size := 1) (w.alloc (.cells #[.slice A1 n1 c1, .slice A2 n2 c2] 26)) mc n2 (by rw [sz]; omega) (by unfold maxLen; omega) hcells
  rw [sz] at hO
  have O2 := qh hO
  have B2 := qh (((Below.refl w.heap.size w).alloc (Nat.le_refl _) (.cells #[.slice A1 n1 c1, .slice A2 n2 c2] 26)).alloc (by simp) (.cells mc 31))
  have x0 := P2.out.cell 1
  simp only [gT, gZ, gS] at x0
  clear sz hO hcells
  go_enter Try.func42, Try.ntmps42
  go_wp2_with fail
  clear x0
  generalize (w.alloc (.cells #[.slice A1 n1 c1, .slice A2 n2 c2] 26)).alloc (.cells mc 31) = w2 at P2 O2 B2 ⊢
  go_loopw [3, 13] (fun v i wr => ∃ (k : Nat) (A6 : Option Addr) (m6 c6 : Nat) (vs : List Value), i = .int .i64 k ∧ k ≤ n2 ∧ v = .slice A6 m6 c6 ∧ Below w.heap.size w wr ∧
    wr.ownsRow w.heap.size 31 1 (.slice A6 m6 c6) m6 vs ∧ m6 = k ∧ BnCells wr w.heap.size vs ((us.take k).map (·.2))) (fun _ i _ => n2 - (intOf i).toNat)
  case atStart => exact ⟨0, _, _, _, [], rfl, Nat.zero_le _, rfl, B2.out, O2.out, rfl, BnCells.nil⟩
  case round =>
    clear B2 P2 O2
    obtain ⟨k, A6, m6, c6, vs, rfl, hk, rfl, hbel, hown, hmk', hcs⟩ := hrel
    have Hbel := qh hbel
    have Hown := qh hown
    have Hcs := qh hcs
    have Hmk := qh hmk'
    have lm : m6 ≤ 1048576 := by omega
    have lz := hbel.size
    clear hbel hown hcs hmk'
    by_cases hlt : k < n2
    · have k1 : (0 : Int) ≤ (k : Int) := by omega
      have k2 : (k : Int) < (n2 : Int) := by omega
      have k3 : 0 ≤ (k : Int) * 2 := by omega
      have hkl : Hid (k < us.length) := by have := hl.out; show _ < _; omega
      have Hs := qh (snd_succ hkl.out)
      obtain ⟨b, o, A', m', c', rfl, lb, hc1, hc2, hmc, hrd⟩ := (H.out.below Hbel.out).at_ hlt
      have Hrd := qh hrd
      clear hrd
      generalize (us[k]?.getD (false, [])).2 = ts at *
      generalize (us[k]?.getD (false, [])).1 = op at *
      have sz : (wr.alloc (.cells #[.bool op, .slice A' m' c'] 33)).heap.size = wr.heap.size + 1 := World.size_alloc _ _
      have Own7 := qh (own_alloc (own_alloc Hown.out (.cells #[.bool op, .slice A' m' c'] 33)) (.cells #[.slice A' m' c'] 31))
      have hX := lit1 (wr.alloc (.cells #[.bool op, .slice A' m' c'] 33)) 31 (.slice A' m' c')
      rw [sz] at hX
      have X7 := qh hX
      have lz7 : w.heap.size ≤ ((wr.alloc (.cells #[.bool op, .slice A' m' c'] 33)).alloc (.cells #[.slice A' m' c'] 31)).heap.size := by rw [World.size_alloc, sz]; omega
      have U7 := qh (((Below.refl w.heap.size wr).alloc lz (.cells #[.bool op, .slice A' m' c'] 33)).alloc (by rw [sz]; omega) (.cells #[.slice A' m' c'] 31))
      clear hX sz
      go_wp2_with (at_builtin; refine wpList_append_src _ rfl _ _ 51 rfl w.heap.size 31 i0 _ 1 24 Try.underlying51 hi0 hz0 hz1 hz2 rfl (by omega) (.slice A6 m6 c6) m6 _ rfl Own7.out (some ⟨wr.heap.size + 1, 0, none⟩) 1 1 [.slice A' m' c'] rfl X7.out (one1 _ rfl) (by unfold maxLen; omega) (by omega) lz7 ?_; intro v' w8 hown8 hgrow8 hat8; obtain ⟨A8, c8, rfl⟩ := own_shape hown8)
      have up8 := U7.out.grown hgrow8 lz7 (fun j e => (Own7.out.lt j e).1)
      have Hb8 := qh (Hbel.out.trans up8)
      have Own8 := qh hown8
      have Hc8 := qh ((Hcs.out.snoc Hrd.out hmc).keep (fun p hp => up8.cell hp) (Nat.le_refl _))
      clear hown8 hgrow8 hat8 X7 up8
      go_wp2_with fail
      go_roundw
      case measure => simp [intOf]; omega
      case rel => exact ⟨k + 1, A8, m6 + 1, c8, _, by go_num, by omega, rfl, Hb8.out, Own8.out, by have := Hmk.out; omega, by rw [Hs.out]; exact Hc8.out⟩
    · obtain rfl : k = n2 := by omega
      go_wp2_with fail
      go_ret
      have hc := Hcs.out
      rw [List.take_of_length_le (by rw [hl.out]; exact Nat.le_refl _)] at hc
      exact ⟨A6, m6, c6, rfl, RdB.of_own Hown.out hc lz (by omega), Hbel.out⟩

set_option maxHeartbeats 800000 in
theorem badUnit_any (A : Option Addr) (m c : Nat) (op : Bool) (ts : List Tk) (w : World) (h : ts.length = m) (hm : m ≤ 9223372036854775807) :
    Calls Try.prog 44 #[.agg #[.bool op, .slice A m c]] w fun e w' => e = .returned (.bool (!unOk (op, ts))) ∧ Below w.heap.size w w' := by
  have hl := qh h
  clear h
  have B1 := qh (alloc_up w (.cells #[.bool op, .slice A m c] 33))
  have P1 := Blk.new w 33 #[.bool op, .slice A m c]
  have x0 := P1.cell 0
  have x1 := P1.cell 1
  simp only [gT, gZ, gS] at x0 x1
  cases op with
  | true =>
    go_enter Try.func44, Try.ntmps44
    go_wp2
    go_ret
    exact ⟨ret_bool (by simp [unOk]), B1.out⟩
  | false =>
    go_enter Try.func44, Try.ntmps44
    go_wp2
    go_ret
    refine ⟨ret_bool ?_, B1.out⟩
    rw [Bool.eq_iff_iff]
    simp only [unOk, Bool.false_or, Bool.not_eq_true', decide_eq_true_eq]
    rw [← Bool.not_eq_true, List.isEmpty_iff_length_eq_zero]
    have := hl.out
    omega

set_option maxHeartbeats 800000 in
theorem indexUnit_any (A : Option Addr) (n c : Nat) (us : List Un) (w : World) (h : RdN w w.heap.size A n us) :
    Calls Try.prog 68 #[.slice A n c, .func (.func 44) #[] #[]] w fun e w' => e = .returned (.int .i64 (idxP (fun u => !unOk u) us)) ∧ Below w.heap.size w w' := by
  have hn := h.le
  have hl := qh h.len
  have H := qh h
  clear h
  go_enter Try.func68, Try.ntmps68
  go_wp2
  go_loopw [8] (fun i wr => ∃ k : Nat, i = .int .i64 k ∧ k ≤ n ∧ Below w.heap.size w wr ∧ (∀ j, j < k → unOk (us[j]?.getD (false, [])) = true)) (fun i _ => n - (intOf i).toNat)
  case atStart => exact ⟨0, rfl, Nat.zero_le _, Below.refl _ _, by intro j hj; omega⟩
  case round =>
    obtain ⟨k, rfl, hk, hbel, hall⟩ := hrel
    have Hbel := qh hbel
    have Hall := qh hall
    clear hall hbel
    by_cases hlt : k < n
    · obtain ⟨b, o, A', m', c', rfl, lb, hc1, hc2, hmc, hrd⟩ := (H.out.below Hbel.out).at_ hlt
      have k1 : (0 : Int) ≤ (k : Int) := by omega
      have k2 : (k : Int) < (n : Int) := by omega
      have k3 : 0 ≤ (k : Int) * 2 := by omega
      have hcall := qh (badUnit_any A' m' c' (us[k]?.getD (false, [])).1 (us[k]?.getD (false, [])).2 wr hrd.len hrd.le)
      clear hrd
      cases hin : unOk (us[k]?.getD (false, [])) with
      | true =>
        have Hin := qh hin
        go_wp2_with (go_at_call 44; refine hcall.out.mono ?_; rintro e w' ⟨rfl, hb'⟩; rw [hin])
        go_roundw
        case rel => exact ⟨k + 1, by go_num, by omega, below_to Hbel.out hb', fun j hj => by
          by_cases e : j = k
          · rw [e]; exact Hin.out
          · exact Hall.out j (by omega)⟩
        case measure => simp [intOf]; omega
      | false =>
        have Hin := qh hin
        go_wp2_with (go_at_call 44; refine hcall.out.mono ?_; rintro e w' ⟨rfl, hb'⟩; rw [hin])
        go_ret
        exact ⟨ret_int (idxP_some (d := (false, [])) (by rw [hl.out]; exact hlt) (by simp [Hin.out]) (fun j hj => by simp [Hall.out j hj])).symm, below_to Hbel.out hb'⟩
    · go_wp2
      go_ret
      exact ⟨ret_int (idxP_none (d := (false, [])) (fun j hj => by simp [Hall.out j (by have := hl.out; omega)])).symm, Hbel.out⟩

set_option maxHeartbeats 400000 in
theorem containsUnit_any (A : Option Addr) (n c : Nat) (us : List Un) (w : World) (h : RdN w w.heap.size A n us) :
    Calls Try.prog 43 #[.slice A n c, .func (.func 44) #[] #[]] w fun e w' => e = .returned (.bool (us.any (fun u => !unOk u))) ∧ Below w.heap.size w w' := by
  have H := qh h
  clear h
  go_enter Try.func43, Try.ntmps43
  go_wp2_with (go_at_call 68; refine (indexUnit_any _ _ _ _ _ H.out).mono ?_; rintro e w' ⟨rfl, hb'⟩)
  go_ret
  exact ⟨ret_bool (idxP_ge _ _), hb'⟩

set_option maxRecDepth 100000 in
set_option maxHeartbeats 1600000 in
theorem clusterValidIV_any (A1 A2 : Option Addr) (n1 c1 n2 c2 : Nat) (room : List Int) (us : List Un) (w : World) (h : RdC w A1 A2 n1 n2 room us) (hs : ShV us) :
    Calls Try.prog 20 #[.agg #[.slice A1 n1 c1, .slice A2 n2 c2]] w fun e w' => e = .returned (.bool (clOk room us)) ∧ Below w.heap.size w w' := by
  have hl := qh h.b.len
  have H := qh h
  have Hs := qh hs
  have ln : n2 ≤ 1048576 := by have := h.b.len; have := hs.1; omega
  clear h hs
  have B1 := qh (alloc_up w (.cells #[.slice A1 n1 c1, .slice A2 n2 c2] 26))
  have P1 := qh (Blk.new w 26 #[.slice A1 n1 c1, .slice A2 n2 c2])
  have D1 := qh (B1.out.drew)
  have hk2 := qh (fun w' (hb : Below (w.heap.size + 1) (w.alloc (.cells #[.slice A1 n1 c1, .slice A2 n2 c2] 26)) w') => box_pair 26 w (.slice A1 n1 c1) (.slice A2 n2 c2) (w' := w') hb)
  have sz : (w.alloc (.cells #[.slice A1 n1 c1, .slice A2 n2 c2] 26)).heap.size = w.heap.size + 1 := World.size_alloc _ _
  rw [← sz] at hk2
  clear sz
  go_enter Try.func20, Try.ntmps20
  go_wp2_with fail
  generalize w.alloc (.cells #[.slice A1 n1 c1, .slice A2 n2 c2] 26) = w1 at B1 P1 D1 hk2 ⊢
  have K0 : (w1.drew.cell? ⟨w.heap.size, 0, none⟩ = some (.slice A1 n1 c1) ∧ w1.drew.cell? ⟨w.heap.size, 1, none⟩ = some (.slice A2 n2 c2)) := ⟨P1.out.cell 0, P1.out.cell 1⟩
  have H1 := qh (H.out.up D1.out)
  have hH := qh (fun w' (hb : Below w1.heap.size w1 w') => hk2.out w' hb)
  by_cases hin : inR 1 10 (n2 : Int) = true
  · refine wp_region_mix (.take 0 (.take 1 (.take 2 (.bar 3 (.take 4 (.take 5 (.take 6 (.take 7 (.take 8 (.bar 9 (.bar 10 (.take 11 (.take 12 .nil))))))))))))) (fun w' => w'.cell? ⟨w.heap.size, 0, none⟩ = some (.slice A1 n1 c1) ∧ w'.cell? ⟨w.heap.size, 1, none⟩ = some (.slice A2 n2 c2)) (by kernel_rfl) (by kernel_rfl) K0 (fun _ => ?_)
    clear K0
    repeat ((first | refine mxS (by rfl) (by rfl) ?_ | (refine mxT (v := ?_) (by rfl) (by rfl) (fun z y => ?_) ?_; rotate_left; (focus ((try dsimp only at y); (go_simp <;> with_reducible rfl); done)))); (try simp only [Act.put,pS,pZ,pC]))
    (refine mxB (by rfl) (fun K hK => ?_); go_simp)
    refine (within_any _ _ _ _).mono ?_; rintro e w2 ⟨rfl, rfl⟩
    rw [hin]
    ((try dsimp only); refine nxK hK _ _ (hH.out _ ((Below.refl _ _).drew)) ?_; clear hK K; (try simp only [Act.put,pS,pZ,pC]))
    repeat ((first | refine mxS (by rfl) (by rfl) ?_ | (refine mxT (v := ?_) (by rfl) (by rfl) (fun z y => ?_) ?_; rotate_left; (focus ((try dsimp only at y); (go_simp <;> with_reducible rfl); done)))); (try simp only [Act.put,pS,pZ,pC]))
    (refine mxB (by rfl) (fun K hK => ?_); go_simp)
    refine (bins_any A1 A2 n1 c1 n2 c2 us w1.drew H1.out.b ln).mono ?_; rintro e w3 ⟨A5, m5, c5, rfl, hr5, hb5⟩
    have Hr5 := qh hr5
    have Hb5 := qh hb5
    clear hr5 hb5
    ((try dsimp only); refine nxK hK _ _ (hH.out _ (below_to (Below.refl _ _).drew Hb5.out)) ?_; clear hK K; (try simp only [Act.put,pS,pZ,pC]))
    (refine mxB (by rfl) (fun K hK => ?_); go_simp)
    refine (binsValidI_any A1 A5 n1 c1 m5 c5 room _ w3 (H1.out.a.up Hb5.out) Hr5.out (Hs.out.2)).mono ?_; rintro e w4 ⟨rfl, hb6⟩
    have Hb6 := qh (below_to Hb5.out hb6)
    clear hb6
    cases hbo : binsOk room (us.map (·.2)) with
    | false =>
      have Hbo := qh hbo
      ((try dsimp only); refine nxK hK _ _ (hH.out _ (below_to (Below.refl _ _).drew Hb6.out)) ?_; clear hK K; (try simp only [Act.put,pS,pZ,pC]))
      repeat ((first | refine mxS (by rfl) (by rfl) ?_ | (refine mxT (v := ?_) (by rfl) (by rfl) (fun z y => ?_) ?_; rotate_left; (focus ((try dsimp only at y); (go_simp <;> with_reducible rfl); done)))); (try simp only [Act.put,pS,pZ,pC]))
      refine wpMix_nil ?_
      go_wp2_with fail
      go_ret
      exact ⟨ret_bool (by rw [clOk_unfold, Hbo.out]; simp), below_to D1.out Hb6.out⟩
    | true =>
      have Hbo := qh hbo
      ((try dsimp only); refine nxK hK _ _ (hH.out _ (below_to (Below.refl _ _).drew Hb6.out)) ?_; clear hK K; (try simp only [Act.put,pS,pZ,pC]))
      repeat ((first | refine mxS (by rfl) (by rfl) ?_ | (refine mxT (v := ?_) (by rfl) (by rfl) (fun z y => ?_) ?_; rotate_left; (focus ((try dsimp only at y); (go_simp <;> with_reducible rfl); done)))); (try simp only [Act.put,pS,pZ,pC]))
      refine wpMix_nil ?_
      obtain ⟨x0, x1⟩ := hH.out _ (below_to (Below.refl _ _).drew Hb6.out)
      go_wp2_with (go_at_call 43; refine (containsUnit_any A2 n2 c2 us w4 (H1.out.b.up Hb6.out)).mono ?_; rintro e w5 ⟨rfl, hb7⟩)
      go_ret
      refine ⟨ret_bool ?_, below_to D1.out (below_to Hb6.out hb7)⟩
      rw [clOk_unfold, Hbo.out, Bool.and_true, ← inR_len, hl.out, hin, Bool.true_and]
      simp [List.any_eq_not_all_not]
  · have hin : inR 1 10 (n2 : Int) = false := by simpa using hin
    refine wp_region_mix (.take 0 (.take 1 (.take 2 (.bar 3 (.take 4 (.take 5 (.take 6 (.take 7 (.take 8 (.take 9 (.take 10 (.take 11 (.take 12 .nil))))))))))))) (fun w' => w'.cell? ⟨w.heap.size, 0, none⟩ = some (.slice A1 n1 c1) ∧ w'.cell? ⟨w.heap.size, 1, none⟩ = some (.slice A2 n2 c2)) (by kernel_rfl) (by kernel_rfl) K0 (fun _ => ?_)
    clear K0
    repeat ((first | refine mxS (by rfl) (by rfl) ?_ | (refine mxT (v := ?_) (by rfl) (by rfl) (fun z y => ?_) ?_; rotate_left; (focus ((try dsimp only at y); (go_simp <;> with_reducible rfl); done)))); (try simp only [Act.put,pS,pZ,pC]))
    (refine mxB (by rfl) (fun K hK => ?_); go_simp)
    refine (within_any _ _ _ _).mono ?_; rintro e w2 ⟨rfl, rfl⟩
    rw [hin]
    ((try dsimp only); refine nxK hK _ _ (hH.out _ ((Below.refl _ _).drew)) ?_; clear hK K; (try simp only [Act.put,pS,pZ,pC]))
    repeat ((first | refine mxS (by rfl) (by rfl) ?_ | (refine mxT (v := ?_) (by rfl) (by rfl) (fun z y => ?_) ?_; rotate_left; (focus ((try dsimp only at y); (go_simp <;> with_reducible rfl); done)))); (try simp only [Act.put,pS,pZ,pC]))
    refine wpMix_nil ?_
    go_wp2
    go_ret
    exact ⟨ret_bool (by rw [clOk_unfold, ← inR_len, hl.out, hin, Bool.false_and, Bool.false_and]), D1.out⟩

theorem clusterValidI_any (A1 A2 : Option Addr) (n1 c1 n2 c2 : Nat) (room : List Int) (us : List Un) (w : World) (h : RdC w A1 A2 n1 n2 room us) (hs : ShU us) :
    Calls Try.prog 20 #[.agg #[.slice A1 n1 c1, .slice A2 n2 c2]] w fun e w' => e = .returned (.bool (clOk room us)) ∧ Below w.heap.size w w' := clusterValidIV_any A1 A2 n1 c1 n2 c2 room us w h hs.v

end Go.Proofs.Ytlcgbnmmbheleaa

namespace Go.Proofs.Ytlcgbnmmbheleaa
set_option linter.unusedSimpArgs false
set_option linter.unusedVariables false
open Go Go.RowKit

section
variable {P : Program} {ops : Array Oper} {Q : Exit → Act → World → Prop} {md : Region.Mode} {S : World → Prop} {Ls : List Nat}

def wpAnyL (P : Program) (md : Region.Mode) (ops : Array Oper) (Q : Exit → Act → World → Prop) (S : World → Prop) (Ls : List Nat) : Nat → Array Bool → Act → World → Prop
  | 0, listed, a, w => Region.ready md ops listed = [] ∧ Q .normal a w
  | fuel + 1, listed, a, w =>
    (Region.ready md ops listed = [] → Q .normal a w) ∧
    ∀ i ∈ Region.ready md ops listed, wpOp P ops Q i (fun a' w' => (i ∈ Ls ∨ S w') ∧ wpAnyL P md ops Q S Ls fuel (listed.setIfInBounds i true) a' w') a w
theorem wpAny_of_L : ∀ (fuel : Nat) (listed : Array Bool) (a : Act) (w : World), wpAnyL P md ops Q S Ls fuel listed a w → wpAny P md ops Q fuel listed a w
  | 0, _, _, _, h => h
  | fuel + 1, _, _, _, h => ⟨h.1, fun i hi => wpOp_mono (fun a' w' h' => wpAny_of_L fuel _ a' w' h'.2) (h.2 i hi)⟩

def ClosedL (md : Region.Mode) (ops : Array Oper) (listed : Array Bool) : Prop := ∀ j o, ops[j]? = some o → listed.getD j false = true → ∀ e ∈ o.after, Region.binds md e = true → listed.getD e.on false = true
theorem closed_set {listed : Array Bool} {j : Nat} (h : ClosedL md ops listed) (hj : j ∈ Region.ready md ops listed) : ClosedL md ops (listed.setIfInBounds j true) := by
  intro k o hk hl e he hb
  by_cases e1 : j = k
  · subst e1
    obtain ⟨_, o', ho', hall⟩ := mem_ready.1 hj
    rw [hk] at ho'
    injection ho' with ho'
    subst ho'
    exact getD_set_true (hall e he hb)
  · rw [getD_set_ne false e1] at hl
    exact getD_set_true (h k o hk hl e he hb)
def waitsL (md : Region.Mode) (ops : Array Oper) : Nat → Nat → Nat → Bool
  | 0, _, _ => false
  | f + 1, l, i => match ops[l]? with
    | none => true
    | some o => o.after.toList.any (fun e => Region.binds md e && (e.on == i || (decide (e.on < ops.size) && waitsL md ops f e.on i)))
theorem waits_listed {listed : Array Bool} {i : Nat} (h : ClosedL md ops listed) : ∀ (f l : Nat), l < ops.size → listed.getD l false = true → waitsL md ops f l i = true → listed.getD i false = true
  | 0, l, _, _, hw => by cases hw
  | f + 1, l, hlt, hl, hw => by
    unfold waitsL at hw
    rw [Array.getElem?_eq_getElem hlt] at hw
    simp only [List.any_eq_true, Bool.and_eq_true, Bool.or_eq_true, beq_iff_eq, decide_eq_true_eq] at hw
    obtain ⟨e, he, hb, hx⟩ := hw
    have he : e ∈ _ := Array.mem_toList_iff.1 he
    have h1 := h l _ (Array.getElem?_eq_getElem hlt) hl e he hb
    rcases hx with rfl | ⟨hx1, hx2⟩
    · exact h1
    · exact waits_listed h f e.on hx1 h1 hx2
theorem waits_ready {listed : Array Bool} {i l f : Nat} (h : ClosedL md ops listed) (hr : l ∈ Region.ready md ops listed) (hw : waitsL md ops (f + 1) l i = true) : listed.getD i false = true := by
  obtain ⟨_, o, ho, hall⟩ := mem_ready.1 hr
  unfold waitsL at hw
  rw [ho] at hw
  simp only [List.any_eq_true, Bool.and_eq_true, Bool.or_eq_true, beq_iff_eq, decide_eq_true_eq] at hw
  obtain ⟨e, he, hb, hx⟩ := hw
  have he : e ∈ _ := Array.mem_toList_iff.1 he
  have h1 := hall e he hb
  rcases hx with rfl | ⟨hx1, hx2⟩
  · exact h1
  · exact waits_listed h f e.on hx1 h1 hx2
theorem getD_both {listed : Array Bool} {i : Nat} (h : listed.getD i true = false) : listed.getD i false = false := by
  simp only [Array.getD_eq_getD_getElem?] at h ⊢
  cases hh : listed[i]? with
  | none => rfl
  | some b => rw [hh] at h; exact h

theorem wpAnyL_first {i : Nat} {oi : Oper} {v : Value} (hi : ops[i]? = some oi) (hsel : ∀ (j : Nat) (o : Oper) cs b, ops[j]? = some o → o.op ≠ .select cs b)
    (hQ : ∀ c a w, Q (.panic c) (a.put oi.dst v) w → Q (.panic c) a w) (hL : ∀ l ∈ Ls, l ≠ i → waitsL md ops (ops.size + 1) l i = true) :
    ∀ (fuel : Nat) (listed : Array Bool) (a : Act) (w : World), ClosedL md ops listed →
      (∀ j oj, ops[j]? = some oj → j ≠ i → listed.getD j true = false → (∀ e ∈ oj.after, Region.binds md e = true → e.on ≠ i) → oi.apart ops oj = true) →
      i ∈ Region.ready md ops listed → YieldsIf P ops S oi v a → S w →
      wpAnyL P md ops Q S Ls fuel (listed.setIfInBounds i true) (a.put oi.dst v) w → wpAnyL P md ops Q S Ls (fuel + 1) listed a w := by
  intro fuel
  induction fuel with
  | zero =>
    intro listed a w _ _ hr hy hS H
    refine ⟨fun h => (by rw [h] at hr; cases hr), fun j hj => ?_⟩
    by_cases hji : j = i
    · subst hji; exact hy.wpOp hi hS ⟨.inr hS, H⟩
    · have := ready_mono hj hji
      rw [H.1] at this
      cases this
  | succ fuel ih =>
    intro listed a w hcl hfree hr hy hS H
    refine ⟨fun h => (by rw [h] at hr; cases hr), fun j hj => ?_⟩
    by_cases hji : j = i
    · subst hji; exact hy.wpOp hi hS ⟨.inr hS, H⟩
    · have h1 := H.2 j (ready_mono hj hji)
      obtain ⟨hjun, oj, hoj, hall⟩ := mem_ready.1 hj
      have hiun := getD_both (mem_ready.1 hr).1
      have hjL : j ∉ Ls := fun hm => by
        have := waits_ready hcl hj (hL j hm hji)
        rw [hiun] at this; cases this
      have hnot : ∀ e ∈ oj.after, Region.binds md e = true → e.on ≠ i := fun e he hb heq => by
        have h1 := hall e he hb
        rw [heq, hiun] at h1
        cases h1
      have h2 := wpOp_putIf hoj (hfree j oj hoj hji hjun hnot) (fun cs b => hsel i oi cs b hi) (fun cs b => hsel j oj cs b hoj) hQ hy h1
      have hfree' : ∀ k ok, ops[k]? = some ok → k ≠ i → (listed.setIfInBounds j true).getD k true = false →
          (∀ e ∈ ok.after, Region.binds md e = true → e.on ≠ i) → oi.apart ops ok = true := fun k ok hk hki hun hno => by
        refine hfree k ok hk hki ?_ hno
        by_cases hjk : j = k
        · subst hjk; exact hjun
        · rw [getD_set_ne true hjk] at hun; exact hun
      refine wpOp_mono (fun a' w' h3 => ⟨h3.2.1, ih (listed.setIfInBounds j true) a' w' (closed_set hcl hj) hfree' (ready_mono hr (Ne.symm hji)) h3.1 (h3.2.1.resolve_left hjL) ?_⟩) h2
      rw [Array.setIfInBounds_comm _ _ hji]
      exact h3.2.2

inductive MixL where
  | nil
  | take (i : Nat) (r : MixL)
  | bar (i : Nat) (r : MixL)
  | last (i : Nat) (r : MixL)
  | fork (i : Nat) (r : MixL) (j : Nat) (s : MixL)
def lexMixL (Ls : List Nat) (ops : Array Oper) : MixL → Bool → Nat → Array Bool → Bool
  | .nil, _, _, listed => (Region.ready .any ops listed).isEmpty
  | .take i r, b, f, listed => b && (decide (0 < f) && ((Region.ready .any ops listed).contains i && Region.free .any ops listed i) && (Ls.all (fun l => l == i || waitsL .any ops (ops.size + 1) l i) && lexMixL Ls ops r b (f - 1) (listed.setIfInBounds i true)))
  | .bar i r, _, f, listed => decide (0 < f) && decide (Region.ready .any ops listed = [i]) && lexMixL Ls ops r true (f - 1) (listed.setIfInBounds i true)
  | .last i r, _, f, listed => decide (0 < f) && decide (Region.ready .any ops listed = [i]) && (Ls.contains i && lexMixL Ls ops r false (f - 1) (listed.setIfInBounds i true))
  | .fork i r j s, _, f, listed => decide (0 < f) && decide (Region.ready .any ops listed = [i, j]) && (lexMixL Ls ops r true (f - 1) (listed.setIfInBounds i true) && lexMixL Ls ops s true (f - 1) (listed.setIfInBounds j true))
def mixLOk (Ls : List Nat) (ops : Array Oper) (ord : MixL) : Bool := Region.noSelect ops && lexMixL Ls ops ord true ops.size (Array.replicate ops.size false)
def wpMixL (P : Program) (ops : Array Oper) (Q : Exit → Act → World → Prop) (S : World → Prop) : MixL → Act → World → Prop
  | .nil, a, w => Q .normal a w
  | .take i r, a, w => ∃ o v, ops[i]? = some o ∧ YieldsIf P ops S o v a ∧ wpMixL P ops Q S r (a.put o.dst v) w
  | .bar i r, a, w => wpOp P ops Q i (fun a' w' => S w' ∧ wpMixL P ops Q S r a' w') a w
  | .last i r, a, w => wpOp P ops Q i (fun a' w' => wpMixL P ops Q S r a' w') a w
  | .fork i r j s, a, w => wpOp P ops Q i (fun a' w' => S w' ∧ wpMixL P ops Q S r a' w') a w ∧ wpOp P ops Q j (fun a' w' => S w' ∧ wpMixL P ops Q S s a' w') a w
theorem wpAnyL_mix (hsel : Region.noSelect ops = true) (hQ : ∀ c a a' w, Q (.panic c) a w → Q (.panic c) a' w) : ∀ (ord : MixL) (b : Bool) (f : Nat) (listed : Array Bool) (a : Act) (w : World),
    lexMixL Ls ops ord b f listed = true → ClosedL .any ops listed → (b = true → S w) → wpMixL P ops Q S ord a w → wpAnyL P .any ops Q S Ls f listed a w
  | .nil, b, f, listed, _, _, hB, _, _, h => by
    have hr : Region.ready .any ops listed = [] := by simpa [lexMixL] using hB
    cases f with
    | zero => exact ⟨hr, h⟩
    | succ f => exact ⟨fun _ => h, by rw [hr]; simp⟩
  | .take i r, b, f, listed, a, w, hB, hC, hS, h => by
    simp only [lexMixL, Bool.and_eq_true, decide_eq_true_eq, List.all_eq_true, Bool.or_eq_true, beq_iff_eq] at hB
    obtain ⟨hb, ⟨hf, hcon, hfr⟩, hwt, hrest⟩ := hB
    obtain ⟨f, rfl⟩ : ∃ g, f = g + 1 := ⟨f - 1, by omega⟩
    obtain ⟨o, v, h0, hy, hK⟩ := h
    have hr : i ∈ Region.ready .any ops listed := by simpa using hcon
    exact wpAnyL_first h0 (Region.noSelect_spec hsel) (fun c a' w' hq => hQ c _ _ w' hq) (fun l hl hne => (hwt l hl).resolve_left hne) f listed a w hC (Region.free_spec h0 hfr) hr hy (hS hb)
      (wpAnyL_mix hsel hQ r b _ _ _ w hrest (closed_set hC hr) hS hK)
  | .bar i r, b, f, listed, a, w, hB, hC, hS, h => by
    simp only [lexMixL, Bool.and_eq_true, decide_eq_true_eq] at hB
    obtain ⟨f, rfl⟩ : ∃ g, f = g + 1 := ⟨f - 1, by omega⟩
    refine ⟨fun h0 => (by rw [hB.1.2] at h0; cases h0), fun j hj => ?_⟩
    have : j = i := by rw [hB.1.2] at hj; simpa using hj
    subst this
    exact wpOp_mono (fun a' w' hh => ⟨.inr hh.1, wpAnyL_mix hsel hQ r true _ _ a' w' hB.2 (closed_set hC hj) (fun _ => hh.1) hh.2⟩) h
  | .last i r, b, f, listed, a, w, hB, hC, hS, h => by
    simp only [lexMixL, Bool.and_eq_true, decide_eq_true_eq] at hB
    obtain ⟨f, rfl⟩ : ∃ g, f = g + 1 := ⟨f - 1, by omega⟩
    refine ⟨fun h0 => (by rw [hB.1.2] at h0; cases h0), fun j hj => ?_⟩
    have : j = i := by rw [hB.1.2] at hj; simpa using hj
    subst this
    exact wpOp_mono (fun a' w' hh => ⟨.inl (by simpa using hB.2.1), wpAnyL_mix hsel hQ r false _ _ a' w' hB.2.2 (closed_set hC hj) (fun h => by cases h) hh⟩) h
  | .fork i r j s, b, f, listed, a, w, hB, hC, hS, h => by
    simp only [lexMixL, Bool.and_eq_true, decide_eq_true_eq] at hB
    obtain ⟨f, rfl⟩ : ∃ g, f = g + 1 := ⟨f - 1, by omega⟩
    refine ⟨fun h0 => (by rw [hB.1.2] at h0; cases h0), fun k hk => ?_⟩
    have hk' := hk
    rw [hB.1.2] at hk'
    rcases List.mem_cons.1 hk' with rfl | hk'
    · exact wpOp_mono (fun a' w' hh => ⟨.inr hh.1, wpAnyL_mix hsel hQ r true _ _ a' w' hB.2.1 (closed_set hC hk) (fun _ => hh.1) hh.2⟩) h.1
    · have : k = j := by simpa using hk'
      subst this
      exact wpOp_mono (fun a' w' hh => ⟨.inr hh.1, wpAnyL_mix hsel hQ s true _ _ a' w' hB.2.2 (closed_set hC hk) (fun _ => hh.1) hh.2⟩) h.2
theorem wp_region_mixL {id : Nat} {Q' : Exit → Act → World → Prop} {a : Act} {w : World} {l : List Oper} (ord : MixL) (Ls : List Nat) (S : World → Prop) (hm : P.follows .mixedOrders = true) (hB : mixLOk Ls l.toArray ord = true) (hS : S w.drew)
    (h : S w.drew → wpMixL P l.toArray (NoPanic Q') S ord a w.drew) : (Code.region id l.toArray true).wp P Q' a w := by
  simp only [mixLOk, Bool.and_eq_true] at hB
  refine wp_region_noPanic (wp_region_any hm (wpAny_of_L (S := S) (Ls := Ls) _ _ _ _ ?_))
  exact wpAnyL_mix (Q := NoPanic Q') (S := S) (Ls := Ls) hB.1 (fun c a a' w hq => (hq : False).elim) ord true _ (Array.replicate l.toArray.size false) a w.drew hB.2 (fun j o hj hl => by
    exfalso
    simp only [Array.getD_eq_getD_getElem?] at hl
    rw [Array.getElem?_replicate] at hl
    split at hl <;> simp at hl) (fun _ => hS) (h hS)

theorem lxT {i : Nat} {o : Oper} {tl : List Oper} {r : MixL} {a : Act} {w : World} {v : Value} (ho : ops.toList.drop i = o :: tl) (hw : Region.wanted o (yielded ops a.tmps) = true) (hy : ∀ w', S w' → (execOp a.eval o).run P w' = .ok (.value v) w')
    (h : wpMixL P ops Q S r (a.put o.dst v) w) : wpMixL P ops Q S (.take i r) a w := ⟨o, v, mix_at ho, .inl ⟨hw, hy⟩, h⟩
theorem lxS {i : Nat} {o : Oper} {tl : List Oper} {r : MixL} {a : Act} {w : World} (ho : ops.toList.drop i = o :: tl) (hw : Region.wanted o (yielded ops a.tmps) = false)
    (h : wpMixL P ops Q S r (a.put o.dst undef) w) : wpMixL P ops Q S (.take i r) a w := ⟨o, undef, mix_at ho, .inr ⟨hw, rfl⟩, h⟩
theorem wpMixL_last {i : Nat} {o : Oper} {tl : List Oper} {r : MixL} {a : Act} {w : World} (ho : ops.toList.drop i = o :: tl)
    (h : ∀ K : Act → World → Prop, Shut (∀ a w, wpMixL P ops Q S r a w → K a w) → if Region.wanted o (yielded ops a.tmps) = true then Oper.wp P o a w K Q else K (a.put o.dst undef) w) : wpMixL P ops Q S (.last i r) a w :=
  wpOp_step (mix_at ho) (fun K' hK => h K' (fun a w hW => hK a w hW))
theorem wpMixL_nil {Q' : Exit → Act → World → Prop} {a : Act} {w : World} (h : Q' .normal a w) : wpMixL P ops (NoPanic Q') S .nil a w := h
end
end Go.Proofs.Ytlcgbnmmbheleaa
