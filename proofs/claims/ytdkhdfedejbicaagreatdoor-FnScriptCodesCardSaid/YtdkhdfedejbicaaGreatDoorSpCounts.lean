/- Walk: ClusterCounts of the reference. -/
import Derived.Test.YtdkhdfedejbicaaGreatDoorWhereI
namespace Go.Proofs.YtdkhdfedejbicaaGreatDoor
set_option linter.unusedSimpArgs false
set_option linter.unusedVariables false
open Go Go.RowKit
attribute [local go_sem ↓] Go.wp_at_zero Go.wp_at_succ

set_option maxRecDepth 100000 in
set_option maxHeartbeats 3200000 in
theorem clusterCountsS_any (A1 A2 : Option Addr) (n1 c1 n2 c2 : Nat) (room : List Int) (us : List Un) (w : World) (h : RdC w A1 A2 n1 n2 room us) (hs : ShU us) :
    Calls Tryz.prog 31 #[.agg #[.slice A1 n1 c1, .slice A2 n2 c2]] w fun e w' => ∃ A m c, e = .returned (.slice A m c) ∧ w'.ownsRow w.heap.size 3 1 (.slice A m c) m ((countsP room us).map (Value.int .i64)) ∧ Below w.heap.size w w' := by
  have B1 := qh (alloc_up w (.cells #[.slice A1 n1 c1, .slice A2 n2 c2] 35))
  have P1 := qh (Blk.new w 35 #[.slice A1 n1 c1, .slice A2 n2 c2])
  have H1 := qh (h.up B1.out)
  have Hs := qh hs
  clear h hs
  go_enter Tryz.func31, Tryz.ntmps31
  have x0 := P1.out.cell 0
  have x1 := P1.out.cell 1
  simp only [gT, gZ, gS] at x0 x1
  go_wp2_with fail
  clear x0 x1
  generalize hgb : w.heap.size = gb at P1 ⊢
  generalize w.alloc (.cells #[.slice A1 n1 c1, .slice A2 n2 c2] 35) = w1 at B1 P1 H1 ⊢
  have lz1 := P1.out.lt
  refine (clusterValidS_any A1 A2 n1 c1 n2 c2 room us w1 H1.out Hs.out).mono ?_; rintro e w2 ⟨rfl, hb2⟩
  have B2 := qh (B1.out.trans (hb2.mono (by omega)))
  have P2 := qh (P1.out.below hb2 P1.out.lt)
  have H2 := qh (H1.out.up hb2)
  have lz2 := P2.out.lt
  clear hb2 B1 P1 H1 lz1
  cases hok : clOk room us with
  | false =>
    have Hok := qh hok
    clear hok
    have al := alloc_up w2 (.cells #[] 3)
    have B3 := qh (B2.out.trans (al.mono (by omega)))
    have O3 := qh (show (w2.alloc (.cells #[] 3)).ownsRow w2.heap.size 3 1 (.slice (some ⟨w2.heap.size, 0, none⟩) 0 0) 0 [] from World.ownsRow_lit w2 #[] 0 (Nat.le_refl _) (by unfold maxLen; omega) rfl)
    clear al
    go_wp2_with fail
    go_ret
    refine ⟨_, 0, 0, rfl, ?_, B3.out⟩
    unfold countsP
    rw [if_neg (by rw [Hok.out]; simp)]
    exact own_lo O3.out (by omega)
  | true =>
    have Hok := qh hok
    have Hul := qh H2.out.b.len
    have hul10 := (clOk_facts hok).2.2.1
    have Ht14 := qh (clOk_total hok)
    clear hok
    have x0 := P2.out.cell 0
    have x1 := P2.out.cell 1
    simp only [gT, gZ, gS] at x0 x1
    go_wp2_with fail
    go_loopw [3, 4, 5] (fun av bv kv wr => ∃ k : Nat, kv = .int .i64 (k : Nat) ∧ k ≤ n2 ∧ av = .int .i64 (rankU us k : Nat) ∧ bv = .int .i64 (cntT us k : Nat) ∧ w2 = wr) (fun _ _ kv _ => n2 - (intOf kv).toNat)
    case atStart => exact ⟨0, rfl, Nat.zero_le _, by rw [rank_zero]; rfl, rfl, rfl⟩
    case round =>
      obtain ⟨k, rfl, hk, rfl, rfl, rfl⟩ := hrel
      by_cases hlt : k < n2
      · have q1 : (0 : Int) ≤ (k : Int) := by omega
        have q2 : (k : Int) < (n2 : Int) := by omega
        have q5 : 0 ≤ (k : Int) * 2 := by omega
        have hku : k < us.length := by have := Hul.out; omega
        have l0 := Hul.out
        obtain ⟨b, o, Ak, mk, ck, rfl, lb, e0, e1, hmk, hrd⟩ := H2.out.b.at_ hlt
        have hml : mk = (us[k]?.getD (false, [])).2.length := hrd.len.symm
        have r1 := rank_succ hku
        have r2 := cntT_succ hku
        have l1 := rank_le us k
        have l2 := cntT_le us k
        rw [← hml] at r2
        have v1 : IntKind.i64.wrap ((rankU us k : Int) + 1) = (rankU us k : Int) + 1 := wr64 (by omega) (by omega)
        have v2 : IntKind.i64.wrap ((cntT us k : Int) + 1) = (cntT us k : Int) + 1 := wr64 (by omega) (by omega)
        have v3 : IntKind.i64.wrap ((k : Int) + 1) = (k : Int) + 1 := wr64 (by omega) (by omega)
        clear hrd hmk l0
        generalize hop : (us[k]?.getD (false, [])).1 = op at e0 r1
        have R1 := qh r1
        have R2 := qh r2
        clear r1 r2 hml hop
        cases op with
        | false =>
          have R1' := qh (show rankU us (k + 1) = rankU us k from by have := R1.out; simpa using this)
          by_cases hm0 : 0 < mk
          · have hm1 : (0 : Int) < (mk : Int) := by omega
            have R2' := qh (show cntT us (k + 1) = cntT us k + 1 from by rw [R2.out, if_pos hm0])
            go_wp2_with fail
            go_roundw
            case measure => simp [intOf]; omega
            case rel => exact ⟨k + 1, by go_num, by omega, by rw [R1'.out], by rw [R2'.out]; go_num, trivial⟩
          · have hm1 : ¬ (0 : Int) < (mk : Int) := by omega
            have R2' := qh (show cntT us (k + 1) = cntT us k from by rw [R2.out, if_neg hm0]; rfl)
            go_wp2_with fail
            go_roundw
            case measure => simp [intOf]; omega
            case rel => exact ⟨k + 1, by go_num, by omega, by rw [R1'.out], by rw [R2'.out], trivial⟩
        | true =>
          have R1' := qh (show rankU us (k + 1) = rankU us k + 1 from by have := R1.out; simpa using this)
          by_cases hm0 : 0 < mk
          · have hm1 : (0 : Int) < (mk : Int) := by omega
            have R2' := qh (show cntT us (k + 1) = cntT us k + 1 from by rw [R2.out, if_pos hm0])
            go_wp2_with fail
            go_roundw
            case measure => simp [intOf]; omega
            case rel => exact ⟨k + 1, by go_num, by omega, by rw [R1'.out]; go_num, by rw [R2'.out]; go_num, trivial⟩
          · have hm1 : ¬ (0 : Int) < (mk : Int) := by omega
            have R2' := qh (show cntT us (k + 1) = cntT us k from by rw [R2.out, if_neg hm0]; rfl)
            go_wp2_with fail
            go_roundw
            case measure => simp [intOf]; omega
            case rel => exact ⟨k + 1, by go_num, by omega, by rw [R1'.out]; go_num, by rw [R2'.out], trivial⟩
      · obtain rfl : k = n2 := by omega
        have htot : (us.map (·.2)).flatten.length ≤ 1048576 := by have := Ht14.out; omega
        have hcn : cntN us us.length = (us.map (·.2)).flatten.length := cntN_total us
        have Hcn := qh hcn
        clear hcn
        go_wp2_with fail
        clear x0 x1
        refine (l21Bins_any A1 A2 n1 c1 k c2 us w2 H2.out.b (by have := Hul.out; omega)).mono ?_; rintro e w3 ⟨A3, m3, c3, rfl, hrd, hb3⟩
        have R3 := qh hrd
        have B3 := qh (B2.out.trans (hb3.mono (by omega)))
        have l3 : w2.heap.size ≤ w3.heap.size := hb3.size
        clear hrd hb3
        go_wp2_with fail
        refine (l2All_any A3 m3 c3 (us.map (·.2)) w3 R3.out htot).mono ?_; rintro e w4 ⟨A4, m4, c4, rfl, hrd, hb4⟩
        have hm4 : (us.map (·.2)).flatten.length = m4 := hrd.len
        have B4 := qh (B3.out.trans (hb4.mono (by omega)))
        have l4 : w3.heap.size ≤ w4.heap.size := hb4.size
        have Hm4 := qh hm4
        clear hrd hb4 htot hm4
        have B5 := qh (B4.out.trans ((alloc_up w4 (.cells #[.int .i64 (rankU us k : Nat), .int .i64 (cntT us k : Nat), .int .i64 (m4 : Nat)] 3)).mono (by omega)))
        have K5 := qh (Blk.new w4 3 #[.int .i64 (rankU us k : Nat), .int .i64 (cntT us k : Nat), .int .i64 (m4 : Nat)])
        go_wp2_with fail
        go_ret
        refine ⟨some ⟨w4.heap.size, 0, none⟩, 3, 3, rfl, ?_, B5.out⟩
        unfold countsP
        rw [if_pos Hok.out, Hcn.out, Hul.out, Hm4.out]
        exact ⟨rfl, .inr ⟨w4.heap.size, 3, _, rfl, by omega, K5.out, Nat.le_refl _, by unfold maxLen; omega, rfl, rfl⟩⟩
end Go.Proofs.YtdkhdfedejbicaaGreatDoor
