/- Walks: ClusterWhere and ClusterCounts of the program. -/
import Derived.Test.YtdkhdfedejbicaaGreatDoorPlayI
namespace Go.Proofs.YtdkhdfedejbicaaGreatDoor
set_option linter.unusedSimpArgs false
set_option linter.unusedVariables false
open Go Go.RowKit Go.MuLone
attribute [local go_sem ↓] Go.wp_at_zero Go.wp_at_succ

def cntT (us : List Un) (k : Nat) : Nat := ((us.take k).filter (fun u => decide (0 < u.2.length))).length
def cntN (us : List Un) (k : Nat) : Nat := ((us.take k).map (fun u => u.2.length)).sum
def countsP (room : List Int) (us : List Un) : List Int := if clOk room us = true then [(rankU us us.length : Int), (cntT us us.length : Int), (cntN us us.length : Int)] else []
theorem cntT_succ {us : List Un} {i : Nat} (h : i < us.length) : cntT us (i + 1) = cntT us i + (if 0 < (us[i]?.getD (false, [])).2.length then 1 else 0) := by
  unfold cntT
  rw [List.take_succ_eq_append_getElem h, List.filter_append, List.length_append, List.filter_cons, List.getElem?_eq_getElem h, Option.getD_some]
  by_cases e : 0 < us[i].2.length <;> simp [e]
theorem cntN_succ {us : List Un} {i : Nat} (h : i < us.length) : cntN us (i + 1) = cntN us i + (us[i]?.getD (false, [])).2.length := by
  unfold cntN
  rw [List.take_succ_eq_append_getElem h, List.map_append, List.sum_append, List.getElem?_eq_getElem h]
  simp
theorem cntT_le (us : List Un) (i : Nat) : cntT us i ≤ i := Nat.le_trans (List.length_filter_le _ _) (by rw [List.length_take]; omega)
theorem rank_le (us : List Un) (i : Nat) : rankU us i ≤ i := Nat.le_trans (List.length_filter_le _ _) (by rw [List.length_take]; omega)
theorem cntN_total (us : List Un) : cntN us us.length = totalP us := by
  unfold cntN totalP
  rw [List.take_length, List.length_flatten, List.map_map]
  rfl
theorem cntN_le {us : List Un} (h : ∀ u ∈ us, u.2.length ≤ 14) : ∀ k, k ≤ us.length → cntN us k ≤ 14 * k
  | 0, _ => by simp [cntN]
  | k + 1, hk => by
    rw [cntN_succ (by omega)]
    have h1 := cntN_le h k (by omega)
    have h2 := h _ (un_mem (us := us) (k := k) (by omega))
    omega

set_option maxRecDepth 100000 in
set_option maxHeartbeats 3200000 in
theorem clusterCountsI_any (A1 A2 : Option Addr) (n1 c1 n2 c2 : Nat) (room : List Int) (us : List Un) (w : World) (h : RdC w A1 A2 n1 n2 room us) (hs : ShU us) :
    Calls Tryz.prog 25 #[.agg #[.slice A1 n1 c1, .slice A2 n2 c2]] w fun e w' => ∃ A m c, e = .returned (.slice A m c) ∧ w'.ownsRow w.heap.size 3 1 (.slice A m c) m ((countsP room us).map (Value.int .i64)) ∧ Below w.heap.size w w' := by
  have B1 := qh (alloc_up w (.cells #[.slice A1 n1 c1, .slice A2 n2 c2] 35))
  have P1 := qh (Blk.new w 35 #[.slice A1 n1 c1, .slice A2 n2 c2])
  have H1 := qh (h.up B1.out)
  have Hs := qh hs
  have hmk : ∀ w, (Instr.makeSlice 32 (.int .i64 3) (.int .i64 3)).run Tryz.prog w = .ok (.slice (some ⟨w.heap.size, 0, none⟩) 3 3) (w.alloc (.cells #[.int .i64 0, .int .i64 0, .int .i64 0] 3)) := fun _ => by kernel_rfl
  clear h hs
  go_enter Tryz.func25, Tryz.ntmps25
  have x0 := P1.out.cell 0
  have x1 := P1.out.cell 1
  simp only [gT, gZ, gS] at x0 x1
  go_wp2_with fail
  clear x0 x1
  generalize hgb : w.heap.size = gb at P1 ⊢
  generalize w.alloc (.cells #[.slice A1 n1 c1, .slice A2 n2 c2] 35) = w1 at B1 P1 H1 ⊢
  have lz1 := P1.out.lt
  refine (clusterValidI_any A1 A2 n1 c1 n2 c2 room us w1 H1.out Hs.out).mono ?_; rintro e w2 ⟨rfl, hb2⟩
  have B2 := qh (B1.out.trans (hb2.mono (by omega)))
  have P2 := qh (P1.out.below hb2 P1.out.lt)
  have H2 := qh (H1.out.up hb2)
  have lz2 := P2.out.lt
  clear hb2 B1 P1 H1 lz1
  cases hok : clOk room us with
  | false =>
    have Hok := qh hok
    clear hok
    go_wp2_with fail
    go_ret
    refine ⟨none, 0, 0, rfl, ?_, B2.out⟩
    unfold countsP
    rw [if_neg (by rw [Hok.out]; simp)]
    exact ⟨rfl, .inl ⟨rfl, rfl⟩⟩
  | true =>
    have Hok := qh hok
    have hul := (clOk_facts hok).2.2.1
    have Hn14 := qh (fun k hk => cntN_le (us := us) (fun u hu => ((clOk_facts hok).2.2.2 u hu).1) k hk)
    have Hul := qh H2.out.b.len
    clear hok
    have al3 := alloc_up w2 (.cells #[.int .i64 0, .int .i64 0, .int .i64 0] 3)
    have K3 := qh (Blk.new w2 3 #[.int .i64 0, .int .i64 0, .int .i64 0])
    have B3 := qh (B2.out.trans (al3.mono (by omega)))
    have P3 := qh (P2.out.below al3 P2.out.lt)
    have N3 := qh (H2.out.b.below al3)
    have y1 := P3.out.cell 1
    simp only [gT, gZ, gS] at y1
    have lgk : gb < w2.heap.size := P2.out.lt
    clear al3
    go_wp2_with fail
    clear y1
    generalize hgk : w2.heap.size = gk at K3 N3 lgk ⊢
    generalize w2.alloc (.cells #[.int .i64 0, .int .i64 0, .int .i64 0] 3) = w3 at K3 B3 P3 N3 ⊢
    go_loopw [13] (fun kv wr => ∃ k : Nat, kv = .int .i64 (k : Nat) ∧ k ≤ n2 ∧ Blk wr gk 3 #[.int .i64 (rankU us k : Nat), .int .i64 (cntT us k : Nat), .int .i64 (cntN us k : Nat)] ∧ Below gk w3 wr) (fun kv _ => n2 - (intOf kv).toNat)
    case atStart => exact ⟨0, rfl, Nat.zero_le _, by rw [rank_zero]; exact K3.out, Below.refl _ _⟩
    case round =>
      obtain ⟨k, rfl, hk, hkb, hub⟩ := hrel
      have Kb := qh hkb
      have Ub := qh hub
      clear hkb hub
      by_cases hlt : k < n2
      · have q1 : (0 : Int) ≤ (k : Int) := by omega
        have q2 : (k : Int) < (n2 : Int) := by omega
        have q5 : 0 ≤ (k : Int) * 2 := by omega
        have hku : k < us.length := by have := Hul.out; omega
        obtain ⟨b, o, Ak, mk, ck, rfl, lb, e0, e1, hmk, hrd⟩ := (N3.out.below Ub.out).at_ hlt
        have hml : mk = (us[k]?.getD (false, [])).2.length := hrd.len.symm
        have r1 := rank_succ hku
        have r2 := cntT_succ hku
        have r3 := cntN_succ hku
        have l1 := rank_le us k
        have l2 := cntT_le us k
        have l3 := Hn14.out k (by omega)
        have l4 := Hn14.out (k + 1) (by omega)
        rw [← hml] at r2 r3
        have lgu : gk < wr.heap.size := Kb.out.lt
        have v3 : IntKind.i64.wrap ((cntN us k : Int) + (mk : Int)) = ((cntN us k : Int) + (mk : Int)) := wr64 (by omega) (by omega)
        have v1 : IntKind.i64.wrap ((rankU us k : Int) + 1) = (rankU us k : Int) + 1 := wr64 (by omega) (by omega)
        have v2 : IntKind.i64.wrap ((cntT us k : Int) + 1) = (cntT us k : Int) + 1 := wr64 (by omega) (by omega)
        clear hrd hmk l4
        generalize hop : (us[k]?.getD (false, [])).1 = op at e0 r1
        have R1 := qh r1
        have R2 := qh r2
        have R3 := qh r3
        clear r1 r2 r3 hml hop
        generalize rankU us k = ra at *
        generalize cntT us k = ta at *
        generalize cntN us k = na at *
        cases op with
        | false =>
          by_cases hm0 : 0 < mk
          · have hm1 : (0 : Int) < (mk : Int) := by omega
            have al := alloc_up wr (.cells #[.bool false, .slice Ak mk ck] 83)
            have K4 := qh (Kb.out.below al Kb.out.lt)
            have U4 := qh (Ub.out.trans (al.mono (by omega)))
            have P4 := qh (Blk.new wr 83 #[.bool false, .slice Ak mk ck])
            have p0 := P4.out.cell 0
            have p1 := P4.out.cell 1
            have g0 := K4.out.cell 0
            have g1 := K4.out.cell 1
            simp only [gT, gZ, gS] at p0 p1 g0 g1
            have f0 := K4.out.frozen 0
            have f1 := K4.out.frozen 1
            have hne1 : ¬ gk = wr.heap.size := by omega
            have hne2 : ¬ wr.heap.size = gk := by omega
            clear al
            go_wp2_with fail
            have K5 := qh Kb.out
            have U5 := qh Ub.out
            have K5 := qh (K5.out.set_ 1 (.int .i64 ((ta : Int) + 1)))
            have U5 := qh (U5.out.setCell (p := ⟨gk, 1, none⟩) (Nat.le_refl _) (.int .i64 ((ta : Int) + 1)))
            have hP := Blk.new (World.setCell wr ⟨gk, 1, none⟩ (.int .i64 ((ta : Int) + 1))) 83 #[.bool false, .slice Ak mk ck]
            rw [show (World.setCell wr ⟨gk, 1, none⟩ (.int .i64 ((ta : Int) + 1))).heap.size = wr.heap.size from by simp [World.setCell]] at hP
            have P5 := qh hP
            have al5 := alloc_up (World.setCell wr ⟨gk, 1, none⟩ (.int .i64 ((ta : Int) + 1))) (.cells #[.bool false, .slice Ak mk ck] 83)
            have K5 := qh (K5.out.below al5 K5.out.lt)
            have U5 := qh (U5.out.trans (al5.mono (by have := K5.out.lt; simp [World.setCell] at *; omega)))
            clear al5 hP
            have K6 := qh (show Blk (World.alloc (World.setCell wr ⟨gk, 1, none⟩ (.int .i64 ((ta : Int) + 1))) (.cells #[.bool false, .slice Ak mk ck] 83)) gk 3 #[.int .i64 ((ra : Nat) : Int), .int .i64 ((ta : Int) + 1), .int .i64 ((na : Nat) : Int)] from K5.out)
            clear p0 p1 g0 g1 f0 f1 K5 K4 P4 U4
            generalize wr.heap.size = gu at P5 hne1 hne2 lgu ⊢
            generalize (World.alloc (World.setCell wr ⟨gk, 1, none⟩ (.int .i64 ((ta : Int) + 1))) (.cells #[.bool false, .slice Ak mk ck] 83)) = w6 at K6 P5 U5 ⊢
            refine wp_region_mixL (.take 0 (.take 1 (.take 2 (.take 3 (.take 4 (.take 5 (.take 6 (.take 7 (.last 8 .nil))))))))) [8] (fun w' => w'.cell? ⟨gk, 2, none⟩ = some (.int .i64 ((na : Nat) : Int)) ∧ w'.cell? ⟨gu, 1, none⟩ = some (.slice Ak mk ck)) (by kernel_rfl) (by kernel_rfl) ⟨K6.out.cell 2, P5.out.cell 1⟩ (fun _ => ?_)
            have K7 := qh K6.out.drew
            have U7 := qh U5.out.drew
            generalize w6.drew = w7 at K7 U7 ⊢
            have g2 := K7.out.cell 2
            simp only [gT, gZ, gS] at g2
            have f2 := K7.out.frozen 2
            repeat ((first | refine lxS (by rfl) (by rfl) ?_ | (refine lxT (v := ?_) (by rfl) (by rfl) (fun z y => ?_) ?_; rotate_left; (focus ((try dsimp only at y); (go_simp <;> with_reducible rfl); done)))); (try simp only [Act.put,pS,pZ,pC]))
            (refine wpMixL_last (by rfl) (fun K hK => ?_); go_simp)
            ((try dsimp only); refine hK.out _ _ ?_; clear hK K; (try simp only [Act.put,pS,pZ,pC]))
            refine wpMixL_nil ?_
            have K8 := qh (show Blk (w7.setCell ⟨gk, 2, none⟩ (.int .i64 ((na : Int) + (mk : Int)))) gk 3 #[.int .i64 ((ra : Nat) : Int), .int .i64 ((ta : Int) + 1), .int .i64 ((na : Int) + (mk : Int))] from K7.out.set_ 2 _)
            have U8 := qh (U7.out.setCell (p := ⟨gk, 2, none⟩) (Nat.le_refl _) (.int .i64 ((na : Int) + (mk : Int))))
            generalize w7.setCell ⟨gk, 2, none⟩ (.int .i64 ((na : Int) + (mk : Int))) = w8 at K8 U8 ⊢
            clear g2 f2 K7 U7
            go_wp2_with fail
            go_roundw
            case measure => simp [intOf]; omega
            case rel =>
              refine ⟨k + 1, by go_num, by omega, ?_, U8.out⟩
              rw [R1.out, R2.out, R3.out]
              rw [if_neg (by simp)]
              rw [if_pos hm0]
              have h8 := K8.out
              simpa using h8
          · have hm1 : ¬ (0 : Int) < (mk : Int) := by omega
            have al := alloc_up wr (.cells #[.bool false, .slice Ak mk ck] 83)
            have K4 := qh (Kb.out.below al Kb.out.lt)
            have U4 := qh (Ub.out.trans (al.mono (by omega)))
            have P4 := qh (Blk.new wr 83 #[.bool false, .slice Ak mk ck])
            have p0 := P4.out.cell 0
            have p1 := P4.out.cell 1
            have g0 := K4.out.cell 0
            have g1 := K4.out.cell 1
            simp only [gT, gZ, gS] at p0 p1 g0 g1
            have f0 := K4.out.frozen 0
            have f1 := K4.out.frozen 1
            have hne1 : ¬ gk = wr.heap.size := by omega
            have hne2 : ¬ wr.heap.size = gk := by omega
            clear al
            go_wp2_with fail
            have K5 := qh Kb.out
            have U5 := qh Ub.out
            have hP := Blk.new wr 83 #[.bool false, .slice Ak mk ck]
            have P5 := qh hP
            have al5 := alloc_up wr (.cells #[.bool false, .slice Ak mk ck] 83)
            have K5 := qh (K5.out.below al5 K5.out.lt)
            have U5 := qh (U5.out.trans (al5.mono (by have := K5.out.lt; omega)))
            clear al5 hP
            have K6 := qh (show Blk (World.alloc wr (.cells #[.bool false, .slice Ak mk ck] 83)) gk 3 #[.int .i64 ((ra : Nat) : Int), .int .i64 ((ta : Nat) : Int), .int .i64 ((na : Nat) : Int)] from K5.out)
            clear p0 p1 g0 g1 f0 f1 K5 K4 P4 U4
            generalize wr.heap.size = gu at P5 hne1 hne2 lgu ⊢
            generalize (World.alloc wr (.cells #[.bool false, .slice Ak mk ck] 83)) = w6 at K6 P5 U5 ⊢
            refine wp_region_mixL (.take 0 (.take 1 (.take 2 (.take 3 (.take 4 (.take 5 (.take 6 (.take 7 (.last 8 .nil))))))))) [8] (fun w' => w'.cell? ⟨gk, 2, none⟩ = some (.int .i64 ((na : Nat) : Int)) ∧ w'.cell? ⟨gu, 1, none⟩ = some (.slice Ak mk ck)) (by kernel_rfl) (by kernel_rfl) ⟨K6.out.cell 2, P5.out.cell 1⟩ (fun _ => ?_)
            have K7 := qh K6.out.drew
            have U7 := qh U5.out.drew
            generalize w6.drew = w7 at K7 U7 ⊢
            have g2 := K7.out.cell 2
            simp only [gT, gZ, gS] at g2
            have f2 := K7.out.frozen 2
            repeat ((first | refine lxS (by rfl) (by rfl) ?_ | (refine lxT (v := ?_) (by rfl) (by rfl) (fun z y => ?_) ?_; rotate_left; (focus ((try dsimp only at y); (go_simp <;> with_reducible rfl); done)))); (try simp only [Act.put,pS,pZ,pC]))
            (refine wpMixL_last (by rfl) (fun K hK => ?_); go_simp)
            ((try dsimp only); refine hK.out _ _ ?_; clear hK K; (try simp only [Act.put,pS,pZ,pC]))
            refine wpMixL_nil ?_
            have K8 := qh (show Blk (w7.setCell ⟨gk, 2, none⟩ (.int .i64 ((na : Int) + (mk : Int)))) gk 3 #[.int .i64 ((ra : Nat) : Int), .int .i64 ((ta : Nat) : Int), .int .i64 ((na : Int) + (mk : Int))] from K7.out.set_ 2 _)
            have U8 := qh (U7.out.setCell (p := ⟨gk, 2, none⟩) (Nat.le_refl _) (.int .i64 ((na : Int) + (mk : Int))))
            generalize w7.setCell ⟨gk, 2, none⟩ (.int .i64 ((na : Int) + (mk : Int))) = w8 at K8 U8 ⊢
            clear g2 f2 K7 U7
            go_wp2_with fail
            go_roundw
            case measure => simp [intOf]; omega
            case rel =>
              refine ⟨k + 1, by go_num, by omega, ?_, U8.out⟩
              rw [R1.out, R2.out, R3.out]
              rw [if_neg (by simp)]
              rw [if_neg hm0]
              have h8 := K8.out
              simpa using h8
        | true =>
          by_cases hm0 : 0 < mk
          · have hm1 : (0 : Int) < (mk : Int) := by omega
            have al := alloc_up wr (.cells #[.bool true, .slice Ak mk ck] 83)
            have K4 := qh (Kb.out.below al Kb.out.lt)
            have U4 := qh (Ub.out.trans (al.mono (by omega)))
            have P4 := qh (Blk.new wr 83 #[.bool true, .slice Ak mk ck])
            have p0 := P4.out.cell 0
            have p1 := P4.out.cell 1
            have g0 := K4.out.cell 0
            have g1 := K4.out.cell 1
            simp only [gT, gZ, gS] at p0 p1 g0 g1
            have f0 := K4.out.frozen 0
            have f1 := K4.out.frozen 1
            have hne1 : ¬ gk = wr.heap.size := by omega
            have hne2 : ¬ wr.heap.size = gk := by omega
            clear al
            have hKa := (Kb.out.set_ 0 (.int .i64 ((ra : Int) + 1))).below (alloc_up (World.setCell wr ⟨gk, 0, none⟩ (.int .i64 ((ra : Int) + 1))) (.cells #[.bool true, .slice Ak mk ck] 83)) (Kb.out.set_ 0 (.int .i64 ((ra : Int) + 1))).lt
            have g1' := hKa.cell 1
            have f1' := hKa.frozen 1
            clear hKa
            simp only [pS, pZ, gT, gZ, gS] at g1'
            go_wp2_with fail
            have K5 := qh Kb.out
            have U5 := qh Ub.out
            have K5 := qh (K5.out.set_ 0 (.int .i64 ((ra : Int) + 1)))
            have U5 := qh (U5.out.setCell (p := ⟨gk, 0, none⟩) (Nat.le_refl _) (.int .i64 ((ra : Int) + 1)))
            have K5 := qh (K5.out.set_ 1 (.int .i64 ((ta : Int) + 1)))
            have U5 := qh (U5.out.setCell (p := ⟨gk, 1, none⟩) (Nat.le_refl _) (.int .i64 ((ta : Int) + 1)))
            have hP := Blk.new (World.setCell (World.setCell wr ⟨gk, 0, none⟩ (.int .i64 ((ra : Int) + 1))) ⟨gk, 1, none⟩ (.int .i64 ((ta : Int) + 1))) 83 #[.bool true, .slice Ak mk ck]
            rw [show (World.setCell (World.setCell wr ⟨gk, 0, none⟩ (.int .i64 ((ra : Int) + 1))) ⟨gk, 1, none⟩ (.int .i64 ((ta : Int) + 1))).heap.size = wr.heap.size from by simp [World.setCell]] at hP
            have P5 := qh hP
            have al5 := alloc_up (World.setCell (World.setCell wr ⟨gk, 0, none⟩ (.int .i64 ((ra : Int) + 1))) ⟨gk, 1, none⟩ (.int .i64 ((ta : Int) + 1))) (.cells #[.bool true, .slice Ak mk ck] 83)
            have K5 := qh (K5.out.below al5 K5.out.lt)
            have U5 := qh (U5.out.trans (al5.mono (by have := K5.out.lt; simp [World.setCell] at *; omega)))
            clear al5 hP
            have K6 := qh (show Blk (World.alloc (World.setCell (World.setCell wr ⟨gk, 0, none⟩ (.int .i64 ((ra : Int) + 1))) ⟨gk, 1, none⟩ (.int .i64 ((ta : Int) + 1))) (.cells #[.bool true, .slice Ak mk ck] 83)) gk 3 #[.int .i64 ((ra : Int) + 1), .int .i64 ((ta : Int) + 1), .int .i64 ((na : Nat) : Int)] from K5.out)
            clear p0 p1 g0 g1 f0 f1 K5 K4 P4 U4 g1' f1'
            generalize wr.heap.size = gu at P5 hne1 hne2 lgu ⊢
            generalize (World.alloc (World.setCell (World.setCell wr ⟨gk, 0, none⟩ (.int .i64 ((ra : Int) + 1))) ⟨gk, 1, none⟩ (.int .i64 ((ta : Int) + 1))) (.cells #[.bool true, .slice Ak mk ck] 83)) = w6 at K6 P5 U5 ⊢
            refine wp_region_mixL (.take 0 (.take 1 (.take 2 (.take 3 (.take 4 (.take 5 (.take 6 (.take 7 (.last 8 .nil))))))))) [8] (fun w' => w'.cell? ⟨gk, 2, none⟩ = some (.int .i64 ((na : Nat) : Int)) ∧ w'.cell? ⟨gu, 1, none⟩ = some (.slice Ak mk ck)) (by kernel_rfl) (by kernel_rfl) ⟨K6.out.cell 2, P5.out.cell 1⟩ (fun _ => ?_)
            have K7 := qh K6.out.drew
            have U7 := qh U5.out.drew
            generalize w6.drew = w7 at K7 U7 ⊢
            have g2 := K7.out.cell 2
            simp only [gT, gZ, gS] at g2
            have f2 := K7.out.frozen 2
            repeat ((first | refine lxS (by rfl) (by rfl) ?_ | (refine lxT (v := ?_) (by rfl) (by rfl) (fun z y => ?_) ?_; rotate_left; (focus ((try dsimp only at y); (go_simp <;> with_reducible rfl); done)))); (try simp only [Act.put,pS,pZ,pC]))
            (refine wpMixL_last (by rfl) (fun K hK => ?_); go_simp)
            ((try dsimp only); refine hK.out _ _ ?_; clear hK K; (try simp only [Act.put,pS,pZ,pC]))
            refine wpMixL_nil ?_
            have K8 := qh (show Blk (w7.setCell ⟨gk, 2, none⟩ (.int .i64 ((na : Int) + (mk : Int)))) gk 3 #[.int .i64 ((ra : Int) + 1), .int .i64 ((ta : Int) + 1), .int .i64 ((na : Int) + (mk : Int))] from K7.out.set_ 2 _)
            have U8 := qh (U7.out.setCell (p := ⟨gk, 2, none⟩) (Nat.le_refl _) (.int .i64 ((na : Int) + (mk : Int))))
            generalize w7.setCell ⟨gk, 2, none⟩ (.int .i64 ((na : Int) + (mk : Int))) = w8 at K8 U8 ⊢
            clear g2 f2 K7 U7
            go_wp2_with fail
            go_roundw
            case measure => simp [intOf]; omega
            case rel =>
              refine ⟨k + 1, by go_num, by omega, ?_, U8.out⟩
              rw [R1.out, R2.out, R3.out]
              rw [if_pos trivial]
              rw [if_pos hm0]
              have h8 := K8.out
              simpa using h8
          · have hm1 : ¬ (0 : Int) < (mk : Int) := by omega
            have al := alloc_up wr (.cells #[.bool true, .slice Ak mk ck] 83)
            have K4 := qh (Kb.out.below al Kb.out.lt)
            have U4 := qh (Ub.out.trans (al.mono (by omega)))
            have P4 := qh (Blk.new wr 83 #[.bool true, .slice Ak mk ck])
            have p0 := P4.out.cell 0
            have p1 := P4.out.cell 1
            have g0 := K4.out.cell 0
            have g1 := K4.out.cell 1
            simp only [gT, gZ, gS] at p0 p1 g0 g1
            have f0 := K4.out.frozen 0
            have f1 := K4.out.frozen 1
            have hne1 : ¬ gk = wr.heap.size := by omega
            have hne2 : ¬ wr.heap.size = gk := by omega
            clear al
            go_wp2_with fail
            have K5 := qh Kb.out
            have U5 := qh Ub.out
            have K5 := qh (K5.out.set_ 0 (.int .i64 ((ra : Int) + 1)))
            have U5 := qh (U5.out.setCell (p := ⟨gk, 0, none⟩) (Nat.le_refl _) (.int .i64 ((ra : Int) + 1)))
            have hP := Blk.new (World.setCell wr ⟨gk, 0, none⟩ (.int .i64 ((ra : Int) + 1))) 83 #[.bool true, .slice Ak mk ck]
            rw [show (World.setCell wr ⟨gk, 0, none⟩ (.int .i64 ((ra : Int) + 1))).heap.size = wr.heap.size from by simp [World.setCell]] at hP
            have P5 := qh hP
            have al5 := alloc_up (World.setCell wr ⟨gk, 0, none⟩ (.int .i64 ((ra : Int) + 1))) (.cells #[.bool true, .slice Ak mk ck] 83)
            have K5 := qh (K5.out.below al5 K5.out.lt)
            have U5 := qh (U5.out.trans (al5.mono (by have := K5.out.lt; simp [World.setCell] at *; omega)))
            clear al5 hP
            have K6 := qh (show Blk (World.alloc (World.setCell wr ⟨gk, 0, none⟩ (.int .i64 ((ra : Int) + 1))) (.cells #[.bool true, .slice Ak mk ck] 83)) gk 3 #[.int .i64 ((ra : Int) + 1), .int .i64 ((ta : Nat) : Int), .int .i64 ((na : Nat) : Int)] from K5.out)
            clear p0 p1 g0 g1 f0 f1 K5 K4 P4 U4
            generalize wr.heap.size = gu at P5 hne1 hne2 lgu ⊢
            generalize (World.alloc (World.setCell wr ⟨gk, 0, none⟩ (.int .i64 ((ra : Int) + 1))) (.cells #[.bool true, .slice Ak mk ck] 83)) = w6 at K6 P5 U5 ⊢
            refine wp_region_mixL (.take 0 (.take 1 (.take 2 (.take 3 (.take 4 (.take 5 (.take 6 (.take 7 (.last 8 .nil))))))))) [8] (fun w' => w'.cell? ⟨gk, 2, none⟩ = some (.int .i64 ((na : Nat) : Int)) ∧ w'.cell? ⟨gu, 1, none⟩ = some (.slice Ak mk ck)) (by kernel_rfl) (by kernel_rfl) ⟨K6.out.cell 2, P5.out.cell 1⟩ (fun _ => ?_)
            have K7 := qh K6.out.drew
            have U7 := qh U5.out.drew
            generalize w6.drew = w7 at K7 U7 ⊢
            have g2 := K7.out.cell 2
            simp only [gT, gZ, gS] at g2
            have f2 := K7.out.frozen 2
            repeat ((first | refine lxS (by rfl) (by rfl) ?_ | (refine lxT (v := ?_) (by rfl) (by rfl) (fun z y => ?_) ?_; rotate_left; (focus ((try dsimp only at y); (go_simp <;> with_reducible rfl); done)))); (try simp only [Act.put,pS,pZ,pC]))
            (refine wpMixL_last (by rfl) (fun K hK => ?_); go_simp)
            ((try dsimp only); refine hK.out _ _ ?_; clear hK K; (try simp only [Act.put,pS,pZ,pC]))
            refine wpMixL_nil ?_
            have K8 := qh (show Blk (w7.setCell ⟨gk, 2, none⟩ (.int .i64 ((na : Int) + (mk : Int)))) gk 3 #[.int .i64 ((ra : Int) + 1), .int .i64 ((ta : Nat) : Int), .int .i64 ((na : Int) + (mk : Int))] from K7.out.set_ 2 _)
            have U8 := qh (U7.out.setCell (p := ⟨gk, 2, none⟩) (Nat.le_refl _) (.int .i64 ((na : Int) + (mk : Int))))
            generalize w7.setCell ⟨gk, 2, none⟩ (.int .i64 ((na : Int) + (mk : Int))) = w8 at K8 U8 ⊢
            clear g2 f2 K7 U7
            go_wp2_with fail
            go_roundw
            case measure => simp [intOf]; omega
            case rel =>
              refine ⟨k + 1, by go_num, by omega, ?_, U8.out⟩
              rw [R1.out, R2.out, R3.out]
              rw [if_pos trivial]
              rw [if_neg hm0]
              have h8 := K8.out
              simpa using h8
      · obtain rfl : k = n2 := by omega
        go_wp2_with fail
        go_ret
        refine ⟨some ⟨gk, 0, none⟩, 3, 3, rfl, ?_, B3.out.trans (Ub.out.mono (by omega))⟩
        unfold countsP
        rw [if_pos Hok.out, Hul.out]
        exact ⟨rfl, .inr ⟨gk, 3, _, rfl, by omega, Kb.out, Nat.le_refl _, by unfold maxLen; omega, rfl, rfl⟩⟩
end Go.Proofs.YtdkhdfedejbicaaGreatDoor
