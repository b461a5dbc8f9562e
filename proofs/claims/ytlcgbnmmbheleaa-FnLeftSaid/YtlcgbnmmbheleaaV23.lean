/- Several texts in one. -/
import Derived.Test.YtlcgbnmmbheleaaV22
namespace Go.Proofs.Ytlcgbnmmbheleaa
set_option linter.unusedSimpArgs false
set_option linter.unusedVariables false
open Go Go.RowKit

def rankU (us : List Un) (i : Nat) : Nat := ((us.take i).filter (·.1)).length
theorem rank_zero (us : List Un) : rankU us 0 = 0 := by simp [rankU]
theorem rank_succ {us : List Un} {i : Nat} (h : i < us.length) : rankU us (i + 1) = rankU us i + (if (us[i]?.getD (false, [])).1 = true then 1 else 0) := by
  unfold rankU
  rw [List.take_succ_eq_append_getElem h, List.filter_append, List.length_append, List.getElem?_eq_getElem h, Option.getD_some]
  cases hb : us[i].1 <;> simp [hb]
def openN (us : List Un) : Nat := (us.filter (·.1)).length
theorem openN_rank (us : List Un) : rankU us us.length = openN us := by unfold rankU openN; rw [List.take_length]
theorem rankU_le (us : List Un) (i : Nat) : rankU us i ≤ i := Nat.le_trans (List.length_filter_le _ _) (by rw [List.length_take]; omega)
set_option maxRecDepth 100000 in
set_option maxHeartbeats 1600000 in
theorem countOpen_any (A1 A2 : Option Addr) (n1 c1 n2 c2 : Nat) (room : List Int) (us : List Un) (w : World) (h : RdC w A1 A2 n1 n2 room us) (hs : n2 ≤ 1000) :
    Calls Try.prog 21 #[.agg #[.slice A1 n1 c1, .slice A2 n2 c2]] w fun e w' => e = .returned (.int .i64 (openN us : Nat)) ∧ Below w.heap.size w w' := by
  have Hl := qh h.b.len
  have B1 := qh (alloc_up w (.cells #[.slice A1 n1 c1, .slice A2 n2 c2] 26))
  have N1 := qh (h.b.below B1.out)
  have lz := B1.out.size
  have sz : (w.alloc (.cells #[.slice A1 n1 c1, .slice A2 n2 c2] 26)).heap.size = w.heap.size + 1 := World.size_alloc _ _
  have Z1 := Blk.new w 26 #[.slice A1 n1 c1, .slice A2 n2 c2]
  have x1 := Z1.cell 1
  simp only [gT, gZ, gS] at x1
  clear h
  go_enter Try.func21, Try.ntmps21
  go_wp2_with fail
  clear x1 Z1
  generalize w.alloc (.cells #[.slice A1 n1 c1, .slice A2 n2 c2] 26) = w1 at B1 N1 lz sz ⊢
  go_loopw [3, 9] (fun v kv wr => ∃ k : Nat, kv = .int .i64 (k : Nat) ∧ k ≤ n2 ∧ v = .int .i64 (rankU us k : Nat) ∧ Below w.heap.size w1 wr) (fun _ kv _ => n2 - (intOf kv).toNat)
  case atStart => exact ⟨0, rfl, Nat.zero_le _, by rw [rank_zero]; rfl, Below.refl _ _⟩
  case round =>
    obtain ⟨k, rfl, hk, rfl, hbr⟩ := hrel
    have HB := qh hbr
    clear hbr
    by_cases hlt : k < n2
    · have q1 : (0 : Int) ≤ (k : Int) := by omega
      have q2 : (k : Int) < (n2 : Int) := by omega
      have q5 : 0 ≤ (k : Int) * 2 := by omega
      have hku : k < us.length := by have := Hl.out; omega
      obtain ⟨b, o, Ak, mk, ck, rfl, lb, e0, e1, hmk, hrd⟩ := (N1.out.below HB.out).at_ hlt
      have r1 := rank_succ hku
      have l1 := rankU_le us k
      have lzr := HB.out.size
      have v1 : IntKind.i64.wrap ((rankU us k : Int) + 1) = (rankU us k : Int) + 1 := wr64 (by omega) (by omega)
      clear hrd hmk
      generalize hop : (us[k]?.getD (false, [])).1 = op at e0 r1
      have R1 := qh r1
      clear r1 hop
      have Hn := qh (HB.out.trans ((alloc_up wr (.cells #[.bool op, .slice Ak mk ck] 33)).mono (by omega)))
      cases op with
      | true =>
        go_wp2_with fail
        go_roundw
        case rel => exact ⟨k + 1, by go_num, by omega, by rw [R1.out]; rfl, Hn.out⟩
        case measure => simp [intOf]; omega
      | false =>
        go_wp2_with fail
        go_roundw
        case rel => exact ⟨k + 1, by go_num, by omega, by rw [R1.out]; rfl, Hn.out⟩
        case measure => simp [intOf]; omega
    · obtain rfl : k = n2 := by omega
      go_wp2_with fail
      go_ret
      refine ⟨ret_int (by rw [show rankU us k = openN us from by rw [← openN_rank, Hl.out]]), B1.out.trans HB.out⟩

def cntT (us : List Un) (k : Nat) : Nat := ((us.take k).filter (fun u => decide (0 < u.2.length))).length
def cntN (us : List Un) (k : Nat) : Nat := ((us.take k).map (fun u => u.2.length)).sum
def cntsP (room : List Int) (us : List Un) : List Int := if clOk room us = true then [(rankU us us.length : Int), (cntT us us.length : Int), (cntN us us.length : Int)] else []
theorem cntT_succ {us : List Un} {i : Nat} (h : i < us.length) : cntT us (i + 1) = cntT us i + (if 0 < (us[i]?.getD (false, [])).2.length then 1 else 0) := by
  unfold cntT
  rw [List.take_succ_eq_append_getElem h, List.filter_append, List.length_append, List.filter_cons, List.getElem?_eq_getElem h, Option.getD_some]
  by_cases e : 0 < us[i].2.length <;> simp [e]
theorem cntN_succ {us : List Un} {i : Nat} (h : i < us.length) : cntN us (i + 1) = cntN us i + (us[i]?.getD (false, [])).2.length := by
  unfold cntN
  rw [List.take_succ_eq_append_getElem h, List.map_append, List.sum_append, List.getElem?_eq_getElem h]
  simp
theorem cntT_le (us : List Un) (i : Nat) : cntT us i ≤ i := Nat.le_trans (List.length_filter_le _ _) (by rw [List.length_take]; omega)
theorem rank_le (us : List Un) (i : Nat) : rankU us i ≤ i := Nat.le_trans (List.length_filter_le _ _) (by rw [List.length_take]; omega)
theorem cntN_le {us : List Un} (h : ∀ u ∈ us, u.2.length ≤ 14) : ∀ k, k ≤ us.length → cntN us k ≤ 14 * k
  | 0, _ => by simp [cntN]
  | k + 1, hk => by
    rw [cntN_succ (by omega)]
    have h1 := cntN_le h k (by omega)
    have h2 := h _ (un_mem (us := us) (k := k) (by omega))
    omega

set_option maxRecDepth 100000 in
set_option maxHeartbeats 3200000 in
theorem clusterCountsI_any (A1 A2 : Option Addr) (n1 c1 n2 c2 : Nat) (room : List Int) (us : List Un) (w : World) (h : RdC w A1 A2 n1 n2 room us) (hs : ShU us) :
    Calls Try.prog 15 #[.agg #[.slice A1 n1 c1, .slice A2 n2 c2]] w fun e w' => ∃ A m c, e = .returned (.slice A m c) ∧ w'.ownsRow w.heap.size 3 1 (.slice A m c) m ((cntsP room us).map (Value.int .i64)) ∧ Below w.heap.size w w' := by
  have B1 := qh (alloc_up w (.cells #[.slice A1 n1 c1, .slice A2 n2 c2] 26))
  have P1 := qh (Blk.new w 26 #[.slice A1 n1 c1, .slice A2 n2 c2])
  have H1 := qh (h.up B1.out)
  have Hs := qh hs
  have hmk : ∀ w, (Instr.makeSlice 23 (.int .i64 3) (.int .i64 3)).run Try.prog w = .ok (.slice (some ⟨w.heap.size, 0, none⟩) 3 3) (w.alloc (.cells #[.int .i64 0, .int .i64 0, .int .i64 0] 3)) := fun _ => by kernel_rfl
  clear h hs
  go_enter Try.func15, Try.ntmps15
  have x0 := P1.out.cell 0
  have x1 := P1.out.cell 1
  simp only [gT, gZ, gS] at x0 x1
  go_wp2_with fail
  clear x0 x1
  generalize hgb : w.heap.size = gb at P1 ⊢
  generalize w.alloc (.cells #[.slice A1 n1 c1, .slice A2 n2 c2] 26) = w1 at B1 P1 H1 ⊢
  have lz1 := P1.out.lt
  refine (clusterValidI_any A1 A2 n1 c1 n2 c2 room us w1 H1.out Hs.out).mono ?_; rintro e w2 ⟨rfl, hb2⟩
  have B2 := qh (B1.out.trans (hb2.mono (by omega)))
  have P2 := qh (P1.out.below hb2 P1.out.lt)
  have H2 := qh (H1.out.up hb2)
  have lz2 := P2.out.lt
  clear hb2 B1 P1 H1 lz1
  cases hok : clOk room us with
  | false =>
    have Hok := qh hok
    clear hok
    go_wp2_with fail
    go_ret
    refine ⟨none, 0, 0, rfl, ?_, B2.out⟩
    unfold cntsP
    rw [if_neg (by rw [Hok.out]; simp)]
    exact ⟨rfl, .inl ⟨rfl, rfl⟩⟩
  | true =>
    have Hok := qh hok
    have hul := (clOk_facts hok).2.2.1
    have Hn14 := qh (fun k hk => cntN_le (us := us) (fun u hu => ((clOk_facts hok).2.2.2 u hu).1) k hk)
    have Hul := qh H2.out.b.len
    clear hok
    have al3 := alloc_up w2 (.cells #[.int .i64 0, .int .i64 0, .int .i64 0] 3)
    have K3 := qh (Blk.new w2 3 #[.int .i64 0, .int .i64 0, .int .i64 0])
    have B3 := qh (B2.out.trans (al3.mono (by omega)))
    have P3 := qh (P2.out.below al3 P2.out.lt)
    have N3 := qh (H2.out.b.below al3)
    have y1 := P3.out.cell 1
    simp only [gT, gZ, gS] at y1
    have lgk : gb < w2.heap.size := P2.out.lt
    clear al3
    go_wp2_with fail
    clear y1
    generalize hgk : w2.heap.size = gk at K3 N3 lgk ⊢
    generalize w2.alloc (.cells #[.int .i64 0, .int .i64 0, .int .i64 0] 3) = w3 at K3 B3 P3 N3 ⊢
    go_loopw [13] (fun kv wr => ∃ k : Nat, kv = .int .i64 (k : Nat) ∧ k ≤ n2 ∧ Blk wr gk 3 #[.int .i64 (rankU us k : Nat), .int .i64 (cntT us k : Nat), .int .i64 (cntN us k : Nat)] ∧ Below gk w3 wr) (fun kv _ => n2 - (intOf kv).toNat)
    case atStart => exact ⟨0, rfl, Nat.zero_le _, by rw [rank_zero]; exact K3.out, Below.refl _ _⟩
    case round =>
      obtain ⟨k, rfl, hk, hkb, hub⟩ := hrel
      have Kb := qh hkb
      have Ub := qh hub
      clear hkb hub
      by_cases hlt : k < n2
      · have q1 : (0 : Int) ≤ (k : Int) := by omega
        have q2 : (k : Int) < (n2 : Int) := by omega
        have q5 : 0 ≤ (k : Int) * 2 := by omega
        have hku : k < us.length := by have := Hul.out; omega
        obtain ⟨b, o, Ak, mk, ck, rfl, lb, e0, e1, hmk, hrd⟩ := (N3.out.below Ub.out).at_ hlt
        have hml : mk = (us[k]?.getD (false, [])).2.length := hrd.len.symm
        have r1 := rank_succ hku
        have r2 := cntT_succ hku
        have r3 := cntN_succ hku
        have l1 := rank_le us k
        have l2 := cntT_le us k
        have l3 := Hn14.out k (by omega)
        have l4 := Hn14.out (k + 1) (by omega)
        rw [← hml] at r2 r3
        have lgu : gk < wr.heap.size := Kb.out.lt
        have v3 : IntKind.i64.wrap ((cntN us k : Int) + (mk : Int)) = ((cntN us k : Int) + (mk : Int)) := wr64 (by omega) (by omega)
        have v1 : IntKind.i64.wrap ((rankU us k : Int) + 1) = (rankU us k : Int) + 1 := wr64 (by omega) (by omega)
        have v2 : IntKind.i64.wrap ((cntT us k : Int) + 1) = (cntT us k : Int) + 1 := wr64 (by omega) (by omega)
        clear hrd hmk l4
        generalize hop : (us[k]?.getD (false, [])).1 = op at e0 r1
        have R1 := qh r1
        have R2 := qh r2
        have R3 := qh r3
        clear r1 r2 r3 hml hop
        generalize rankU us k = ra at *
        generalize cntT us k = ta at *
        generalize cntN us k = na at *
        cases op with
        | false =>
          by_cases hm0 : 0 < mk
          · have hm1 : (0 : Int) < (mk : Int) := by omega
            have al := alloc_up wr (.cells #[.bool false, .slice Ak mk ck] 33)
            have K4 := qh (Kb.out.below al Kb.out.lt)
            have U4 := qh (Ub.out.trans (al.mono (by omega)))
            have P4 := qh (Blk.new wr 33 #[.bool false, .slice Ak mk ck])
            have p0 := P4.out.cell 0
            have p1 := P4.out.cell 1
            have g0 := K4.out.cell 0
            have g1 := K4.out.cell 1
            simp only [gT, gZ, gS] at p0 p1 g0 g1
            have f0 := K4.out.frozen 0
            have f1 := K4.out.frozen 1
            have hne1 : ¬ gk = wr.heap.size := by omega
            have hne2 : ¬ wr.heap.size = gk := by omega
            clear al
            go_wp2_with fail
            have K5 := qh Kb.out
            have U5 := qh Ub.out
            have K5 := qh (K5.out.set_ 1 (.int .i64 ((ta : Int) + 1)))
            have U5 := qh (U5.out.setCell (p := ⟨gk, 1, none⟩) (Nat.le_refl _) (.int .i64 ((ta : Int) + 1)))
            have hP := Blk.new (World.setCell wr ⟨gk, 1, none⟩ (.int .i64 ((ta : Int) + 1))) 33 #[.bool false, .slice Ak mk ck]
            rw [show (World.setCell wr ⟨gk, 1, none⟩ (.int .i64 ((ta : Int) + 1))).heap.size = wr.heap.size from by simp [World.setCell]] at hP
            have P5 := qh hP
            have al5 := alloc_up (World.setCell wr ⟨gk, 1, none⟩ (.int .i64 ((ta : Int) + 1))) (.cells #[.bool false, .slice Ak mk ck] 33)
            have K5 := qh (K5.out.below al5 K5.out.lt)
            have U5 := qh (U5.out.trans (al5.mono (by have := K5.out.lt; simp [World.setCell] at *; omega)))
            clear al5 hP
            have K6 := qh (show Blk (World.alloc (World.setCell wr ⟨gk, 1, none⟩ (.int .i64 ((ta : Int) + 1))) (.cells #[.bool false, .slice Ak mk ck] 33)) gk 3 #[.int .i64 ((ra : Nat) : Int), .int .i64 ((ta : Int) + 1), .int .i64 ((na : Nat) : Int)] from K5.out)
            clear p0 p1 g0 g1 f0 f1 K5 K4 P4 U4
            generalize wr.heap.size = gu at P5 hne1 hne2 lgu ⊢
            generalize (World.alloc (World.setCell wr ⟨gk, 1, none⟩ (.int .i64 ((ta : Int) + 1))) (.cells #[.bool false, .slice Ak mk ck] 33)) = w6 at K6 P5 U5 ⊢
            refine wp_region_mixL (.take 0 (.take 1 (.take 2 (.take 3 (.take 4 (.take 5 (.take 6 (.take 7 (.last 8 .nil))))))))) [8] (fun w' => w'.cell? ⟨gk, 2, none⟩ = some (.int .i64 ((na : Nat) : Int)) ∧ w'.cell? ⟨gu, 1, none⟩ = some (.slice Ak mk ck)) (by kernel_rfl) (by kernel_rfl) ⟨K6.out.cell 2, P5.out.cell 1⟩ (fun _ => ?_)
            have K7 := qh K6.out.drew
            have U7 := qh U5.out.drew
            generalize w6.drew = w7 at K7 U7 ⊢
            have g2 := K7.out.cell 2
            simp only [gT, gZ, gS] at g2
            have f2 := K7.out.frozen 2
            repeat ((first | refine lxS (by rfl) (by rfl) ?_ | (refine lxT (v := ?_) (by rfl) (by rfl) (fun z y => ?_) ?_; rotate_left; (focus ((try dsimp only at y); (go_simp <;> with_reducible rfl); done)))); (try simp only [Act.put,pS,pZ,pC]))
            (refine wpMixL_last (by rfl) (fun K hK => ?_); go_simp)
            ((try dsimp only); refine hK.out _ _ ?_; clear hK K; (try simp only [Act.put,pS,pZ,pC]))
            refine wpMixL_nil ?_
            have K8 := qh (show Blk (w7.setCell ⟨gk, 2, none⟩ (.int .i64 ((na : Int) + (mk : Int)))) gk 3 #[.int .i64 ((ra : Nat) : Int), .int .i64 ((ta : Int) + 1), .int .i64 ((na : Int) + (mk : Int))] from K7.out.set_ 2 _)
            have U8 := qh (U7.out.setCell (p := ⟨gk, 2, none⟩) (Nat.le_refl _) (.int .i64 ((na : Int) + (mk : Int))))
            generalize w7.setCell ⟨gk, 2, none⟩ (.int .i64 ((na : Int) + (mk : Int))) = w8 at K8 U8 ⊢
            clear g2 f2 K7 U7
            go_wp2_with fail
            go_roundw
            case measure => simp [intOf]; omega
            case rel =>
              refine ⟨k + 1, by go_num, by omega, ?_, U8.out⟩
              rw [R1.out, R2.out, R3.out]
              rw [if_neg (by simp)]
              rw [if_pos hm0]
              have h8 := K8.out
              simpa using h8
          · have hm1 : ¬ (0 : Int) < (mk : Int) := by omega
            have al := alloc_up wr (.cells #[.bool false, .slice Ak mk ck] 33)
            have K4 := qh (Kb.out.below al Kb.out.lt)
            have U4 := qh (Ub.out.trans (al.mono (by omega)))
            have P4 := qh (Blk.new wr 33 #[.bool false, .slice Ak mk ck])
            have p0 := P4.out.cell 0
            have p1 := P4.out.cell 1
            have g0 := K4.out.cell 0
            have g1 := K4.out.cell 1
            simp only [gT, gZ, gS] at p0 p1 g0 g1
            have f0 := K4.out.frozen 0
            have f1 := K4.out.frozen 1
            have hne1 : ¬ gk = wr.heap.size := by omega
            have hne2 : ¬ wr.heap.size = gk := by omega
            clear al
            go_wp2_with fail
            have K5 := qh Kb.out
            have U5 := qh Ub.out
            have hP := Blk.new wr 33 #[.bool false, .slice Ak mk ck]
            have P5 := qh hP
            have al5 := alloc_up wr (.cells #[.bool false, .slice Ak mk ck] 33)
            have K5 := qh (K5.out.below al5 K5.out.lt)
            have U5 := qh (U5.out.trans (al5.mono (by have := K5.out.lt; omega)))
            clear al5 hP
            have K6 := qh (show Blk (World.alloc wr (.cells #[.bool false, .slice Ak mk ck] 33)) gk 3 #[.int .i64 ((ra : Nat) : Int), .int .i64 ((ta : Nat) : Int), .int .i64 ((na : Nat) : Int)] from K5.out)
            clear p0 p1 g0 g1 f0 f1 K5 K4 P4 U4
            generalize wr.heap.size = gu at P5 hne1 hne2 lgu ⊢
            generalize (World.alloc wr (.cells #[.bool false, .slice Ak mk ck] 33)) = w6 at K6 P5 U5 ⊢
            refine wp_region_mixL (.take 0 (.take 1 (.take 2 (.take 3 (.take 4 (.take 5 (.take 6 (.take 7 (.last 8 .nil))))))))) [8] (fun w' => w'.cell? ⟨gk, 2, none⟩ = some (.int .i64 ((na : Nat) : Int)) ∧ w'.cell? ⟨gu, 1, none⟩ = some (.slice Ak mk ck)) (by kernel_rfl) (by kernel_rfl) ⟨K6.out.cell 2, P5.out.cell 1⟩ (fun _ => ?_)
            have K7 := qh K6.out.drew
            have U7 := qh U5.out.drew
            generalize w6.drew = w7 at K7 U7 ⊢
            have g2 := K7.out.cell 2
            simp only [gT, gZ, gS] at g2
            have f2 := K7.out.frozen 2
            repeat ((first | refine lxS (by rfl) (by rfl) ?_ | (refine lxT (v := ?_) (by rfl) (by rfl) (fun z y => ?_) ?_; rotate_left; (focus ((try dsimp only at y); (go_simp <;> with_reducible rfl); done)))); (try simp only [Act.put,pS,pZ,pC]))
            (refine wpMixL_last (by rfl) (fun K hK => ?_); go_simp)
            ((try dsimp only); refine hK.out _ _ ?_; clear hK K; (try simp only [Act.put,pS,pZ,pC]))
            refine wpMixL_nil ?_
            have K8 := qh (show Blk (w7.setCell ⟨gk, 2, none⟩ (.int .i64 ((na : Int) + (mk : Int)))) gk 3 #[.int .i64 ((ra : Nat) : Int), .int .i64 ((ta : Nat) : Int), .int .i64 ((na : Int) + (mk : Int))] from K7.out.set_ 2 _)
            have U8 := qh (U7.out.setCell (p := ⟨gk, 2, none⟩) (Nat.le_refl _) (.int .i64 ((na : Int) + (mk : Int))))
            generalize w7.setCell ⟨gk, 2, none⟩ (.int .i64 ((na : Int) + (mk : Int))) = w8 at K8 U8 ⊢
            clear g2 f2 K7 U7
            go_wp2_with fail
            go_roundw
            case measure => simp [intOf]; omega
            case rel =>
              refine ⟨k + 1, by go_num, by omega, ?_, U8.out⟩
              rw [R1.out, R2.out, R3.out]
              rw [if_neg (by simp)]
              rw [if_neg hm0]
              have h8 := K8.out
              simpa using h8
        | true =>
          by_cases hm0 : 0 < mk
          · have hm1 : (0 : Int) < (mk : Int) := by omega
            have al := alloc_up wr (.cells #[.bool true, .slice Ak mk ck] 33)
            have K4 := qh (Kb.out.below al Kb.out.lt)
            have U4 := qh (Ub.out.trans (al.mono (by omega)))
            have P4 := qh (Blk.new wr 33 #[.bool true, .slice Ak mk ck])
            have p0 := P4.out.cell 0
            have p1 := P4.out.cell 1
            have g0 := K4.out.cell 0
            have g1 := K4.out.cell 1
            simp only [gT, gZ, gS] at p0 p1 g0 g1
            have f0 := K4.out.frozen 0
            have f1 := K4.out.frozen 1
            have hne1 : ¬ gk = wr.heap.size := by omega
            have hne2 : ¬ wr.heap.size = gk := by omega
            clear al
            have hKa := (Kb.out.set_ 0 (.int .i64 ((ra : Int) + 1))).below (alloc_up (World.setCell wr ⟨gk, 0, none⟩ (.int .i64 ((ra : Int) + 1))) (.cells #[.bool true, .slice Ak mk ck] 33)) (Kb.out.set_ 0 (.int .i64 ((ra : Int) + 1))).lt
            have g1' := hKa.cell 1
            have f1' := hKa.frozen 1
            clear hKa
            simp only [pS, pZ, gT, gZ, gS] at g1'
            go_wp2_with fail
            have K5 := qh Kb.out
            have U5 := qh Ub.out
            have K5 := qh (K5.out.set_ 0 (.int .i64 ((ra : Int) + 1)))
            have U5 := qh (U5.out.setCell (p := ⟨gk, 0, none⟩) (Nat.le_refl _) (.int .i64 ((ra : Int) + 1)))
            have K5 := qh (K5.out.set_ 1 (.int .i64 ((ta : Int) + 1)))
            have U5 := qh (U5.out.setCell (p := ⟨gk, 1, none⟩) (Nat.le_refl _) (.int .i64 ((ta : Int) + 1)))
            have hP := Blk.new (World.setCell (World.setCell wr ⟨gk, 0, none⟩ (.int .i64 ((ra : Int) + 1))) ⟨gk, 1, none⟩ (.int .i64 ((ta : Int) + 1))) 33 #[.bool true, .slice Ak mk ck]
            rw [show (World.setCell (World.setCell wr ⟨gk, 0, none⟩ (.int .i64 ((ra : Int) + 1))) ⟨gk, 1, none⟩ (.int .i64 ((ta : Int) + 1))).heap.size = wr.heap.size from by simp [World.setCell]] at hP
            have P5 := qh hP
            have al5 := alloc_up (World.setCell (World.setCell wr ⟨gk, 0, none⟩ (.int .i64 ((ra : Int) + 1))) ⟨gk, 1, none⟩ (.int .i64 ((ta : Int) + 1))) (.cells #[.bool true, .slice Ak mk ck] 33)
            have K5 := qh (K5.out.below al5 K5.out.lt)
            have U5 := qh (U5.out.trans (al5.mono (by have := K5.out.lt; simp [World.setCell] at *; omega)))
            clear al5 hP
            have K6 := qh (show Blk (World.alloc (World.setCell (World.setCell wr ⟨gk, 0, none⟩ (.int .i64 ((ra : Int) + 1))) ⟨gk, 1, none⟩ (.int .i64 ((ta : Int) + 1))) (.cells #[.bool true, .slice Ak mk ck] 33)) gk 3 #[.int .i64 ((ra : Int) + 1), .int .i64 ((ta : Int) + 1), .int .i64 ((na : Nat) : Int)] from K5.out)
            clear p0 p1 g0 g1 f0 f1 K5 K4 P4 U4 g1' f1'
            generalize wr.heap.size = gu at P5 hne1 hne2 lgu ⊢
            generalize (World.alloc (World.setCell (World.setCell wr ⟨gk, 0, none⟩ (.int .i64 ((ra : Int) + 1))) ⟨gk, 1, none⟩ (.int .i64 ((ta : Int) + 1))) (.cells #[.bool true, .slice Ak mk ck] 33)) = w6 at K6 P5 U5 ⊢
            refine wp_region_mixL (.take 0 (.take 1 (.take 2 (.take 3 (.take 4 (.take 5 (.take 6 (.take 7 (.last 8 .nil))))))))) [8] (fun w' => w'.cell? ⟨gk, 2, none⟩ = some (.int .i64 ((na : Nat) : Int)) ∧ w'.cell? ⟨gu, 1, none⟩ = some (.slice Ak mk ck)) (by kernel_rfl) (by kernel_rfl) ⟨K6.out.cell 2, P5.out.cell 1⟩ (fun _ => ?_)
            have K7 := qh K6.out.drew
            have U7 := qh U5.out.drew
            generalize w6.drew = w7 at K7 U7 ⊢
            have g2 := K7.out.cell 2
            simp only [gT, gZ, gS] at g2
            have f2 := K7.out.frozen 2
            repeat ((first | refine lxS (by rfl) (by rfl) ?_ | (refine lxT (v := ?_) (by rfl) (by rfl) (fun z y => ?_) ?_; rotate_left; (focus ((try dsimp only at y); (go_simp <;> with_reducible rfl); done)))); (try simp only [Act.put,pS,pZ,pC]))
            (refine wpMixL_last (by rfl) (fun K hK => ?_); go_simp)
            ((try dsimp only); refine hK.out _ _ ?_; clear hK K; (try simp only [Act.put,pS,pZ,pC]))
            refine wpMixL_nil ?_
            have K8 := qh (show Blk (w7.setCell ⟨gk, 2, none⟩ (.int .i64 ((na : Int) + (mk : Int)))) gk 3 #[.int .i64 ((ra : Int) + 1), .int .i64 ((ta : Int) + 1), .int .i64 ((na : Int) + (mk : Int))] from K7.out.set_ 2 _)
            have U8 := qh (U7.out.setCell (p := ⟨gk, 2, none⟩) (Nat.le_refl _) (.int .i64 ((na : Int) + (mk : Int))))
            generalize w7.setCell ⟨gk, 2, none⟩ (.int .i64 ((na : Int) + (mk : Int))) = w8 at K8 U8 ⊢
            clear g2 f2 K7 U7
            go_wp2_with fail
            go_roundw
            case measure => simp [intOf]; omega
            case rel =>
              refine ⟨k + 1, by go_num, by omega, ?_, U8.out⟩
              rw [R1.out, R2.out, R3.out]
              rw [if_pos trivial]
              rw [if_pos hm0]
              have h8 := K8.out
              simpa using h8
          · have hm1 : ¬ (0 : Int) < (mk : Int) := by omega
            have al := alloc_up wr (.cells #[.bool true, .slice Ak mk ck] 33)
            have K4 := qh (Kb.out.below al Kb.out.lt)
            have U4 := qh (Ub.out.trans (al.mono (by omega)))
            have P4 := qh (Blk.new wr 33 #[.bool true, .slice Ak mk ck])
            have p0 := P4.out.cell 0
            have p1 := P4.out.cell 1
            have g0 := K4.out.cell 0
            have g1 := K4.out.cell 1
            simp only [gT, gZ, gS] at p0 p1 g0 g1
            have f0 := K4.out.frozen 0
            have f1 := K4.out.frozen 1
            have hne1 : ¬ gk = wr.heap.size := by omega
            have hne2 : ¬ wr.heap.size = gk := by omega
            clear al
            go_wp2_with fail
            have K5 := qh Kb.out
            have U5 := qh Ub.out
            have K5 := qh (K5.out.set_ 0 (.int .i64 ((ra : Int) + 1)))
            have U5 := qh (U5.out.setCell (p := ⟨gk, 0, none⟩) (Nat.le_refl _) (.int .i64 ((ra : Int) + 1)))
            have hP := Blk.new (World.setCell wr ⟨gk, 0, none⟩ (.int .i64 ((ra : Int) + 1))) 33 #[.bool true, .slice Ak mk ck]
            rw [show (World.setCell wr ⟨gk, 0, none⟩ (.int .i64 ((ra : Int) + 1))).heap.size = wr.heap.size from by simp [World.setCell]] at hP
            have P5 := qh hP
            have al5 := alloc_up (World.setCell wr ⟨gk, 0, none⟩ (.int .i64 ((ra : Int) + 1))) (.cells #[.bool true, .slice Ak mk ck] 33)
            have K5 := qh (K5.out.below al5 K5.out.lt)
            have U5 := qh (U5.out.trans (al5.mono (by have := K5.out.lt; simp [World.setCell] at *; omega)))
            clear al5 hP
            have K6 := qh (show Blk (World.alloc (World.setCell wr ⟨gk, 0, none⟩ (.int .i64 ((ra : Int) + 1))) (.cells #[.bool true, .slice Ak mk ck] 33)) gk 3 #[.int .i64 ((ra : Int) + 1), .int .i64 ((ta : Nat) : Int), .int .i64 ((na : Nat) : Int)] from K5.out)
            clear p0 p1 g0 g1 f0 f1 K5 K4 P4 U4
            generalize wr.heap.size = gu at P5 hne1 hne2 lgu ⊢
            generalize (World.alloc (World.setCell wr ⟨gk, 0, none⟩ (.int .i64 ((ra : Int) + 1))) (.cells #[.bool true, .slice Ak mk ck] 33)) = w6 at K6 P5 U5 ⊢
            refine wp_region_mixL (.take 0 (.take 1 (.take 2 (.take 3 (.take 4 (.take 5 (.take 6 (.take 7 (.last 8 .nil))))))))) [8] (fun w' => w'.cell? ⟨gk, 2, none⟩ = some (.int .i64 ((na : Nat) : Int)) ∧ w'.cell? ⟨gu, 1, none⟩ = some (.slice Ak mk ck)) (by kernel_rfl) (by kernel_rfl) ⟨K6.out.cell 2, P5.out.cell 1⟩ (fun _ => ?_)
            have K7 := qh K6.out.drew
            have U7 := qh U5.out.drew
            generalize w6.drew = w7 at K7 U7 ⊢
            have g2 := K7.out.cell 2
            simp only [gT, gZ, gS] at g2
            have f2 := K7.out.frozen 2
            repeat ((first | refine lxS (by rfl) (by rfl) ?_ | (refine lxT (v := ?_) (by rfl) (by rfl) (fun z y => ?_) ?_; rotate_left; (focus ((try dsimp only at y); (go_simp <;> with_reducible rfl); done)))); (try simp only [Act.put,pS,pZ,pC]))
            (refine wpMixL_last (by rfl) (fun K hK => ?_); go_simp)
            ((try dsimp only); refine hK.out _ _ ?_; clear hK K; (try simp only [Act.put,pS,pZ,pC]))
            refine wpMixL_nil ?_
            have K8 := qh (show Blk (w7.setCell ⟨gk, 2, none⟩ (.int .i64 ((na : Int) + (mk : Int)))) gk 3 #[.int .i64 ((ra : Int) + 1), .int .i64 ((ta : Nat) : Int), .int .i64 ((na : Int) + (mk : Int))] from K7.out.set_ 2 _)
            have U8 := qh (U7.out.setCell (p := ⟨gk, 2, none⟩) (Nat.le_refl _) (.int .i64 ((na : Int) + (mk : Int))))
            generalize w7.setCell ⟨gk, 2, none⟩ (.int .i64 ((na : Int) + (mk : Int))) = w8 at K8 U8 ⊢
            clear g2 f2 K7 U7
            go_wp2_with fail
            go_roundw
            case measure => simp [intOf]; omega
            case rel =>
              refine ⟨k + 1, by go_num, by omega, ?_, U8.out⟩
              rw [R1.out, R2.out, R3.out]
              rw [if_pos trivial]
              rw [if_neg hm0]
              have h8 := K8.out
              simpa using h8
      · obtain rfl : k = n2 := by omega
        go_wp2_with fail
        go_ret
        refine ⟨some ⟨gk, 0, none⟩, 3, 3, rfl, ?_, B3.out.trans (Ub.out.mono (by omega))⟩
        unfold cntsP
        rw [if_pos Hok.out, Hul.out]
        exact ⟨rfl, .inr ⟨gk, 3, _, rfl, by omega, Kb.out, Nat.le_refl _, by unfold maxLen; omega, rfl, rfl⟩⟩
end Go.Proofs.Ytlcgbnmmbheleaa

namespace Go.Proofs.Ytlcgbnmmbheleaa
open Go Go.Conc Go.RowKit
set_option linter.unusedVariables false
set_option linter.unusedSimpArgs false

theorem ViewOf_cells_of {v w : World} {b : Nat} {t : TypeId} {cs : Array Value} (h : Blk v b t cs) (e : w.heap = v.heap) : Blk w b t cs := (congrArg (fun h => h[b]?) e).trans h
theorem below_gr {v w : World} (h : Below v.heap.size v w) : GR v w := ⟨h.os, h.output, h.size, h.block⟩
theorem RdC.same {v w : World} {A1 A2 : Option Addr} {n1 n2 : Nat} {room : List Int} {us : List Un} (h : RdC v A1 A2 n1 n2 room us) (e : w.heap = v.heap) : RdC w A1 A2 n1 n2 room us :=
  ⟨h.a.gain (fun p y hy => (World.cell?_of_block (by rw [e])).trans hy) (by rw [e]; exact Nat.le_refl _), h.b.gain (fun p y hy => (World.cell?_of_block (by rw [e])).trans hy) (by rw [e]; exact Nat.le_refl _)⟩
theorem RdC.gr {v w : World} {A1 A2 : Option Addr} {n1 n2 : Nat} {room : List Int} {us : List Un} (h : RdC v A1 A2 n1 n2 room us) (r : GR v w) : RdC w A1 A2 n1 n2 room us :=
  ⟨h.a.gain (fun p y hy => (World.cell?_of_block (r.rows _ (cell_lt hy))).trans hy) r.size, h.b.gain (fun p y hy => (World.cell?_of_block (r.rows _ (cell_lt hy))).trans hy) r.size⟩
theorem GR.same {v w w' : World} (r : GR v w) (e : SameHeap w' w) : GR v w' := ⟨e.os.trans r.os, e.output.trans r.output, by rw [e.heap]; exact r.size, fun b hb => by rw [e.heap]; exact r.rows b hb⟩
theorem GR.from {v w w' : World} (e : SameHeap w v) (r : GR w w') : GR v w' := ⟨r.os.trans e.os, r.output.trans e.output, by rw [← e.heap]; exact r.size, fun b hb => by rw [← e.heap]; exact r.rows b (by rw [e.heap]; exact hb)⟩
theorem Blk.grr {v w : World} {b : Nat} {t : TypeId} {cs : Array Value} (h : Blk v b t cs) (r : GR v w) : Blk w b t cs := (r.rows b h.lt).trans h

def loosestP (room : List Int) (us : List Un) : Int := if clOk room us = true ∧ openN us ≠ 0 then ixP (leftsP room us) (maxP (leftsP room us)) else -1

noncomputable def ulBody : Code := Try.f7.body.getD .skip
noncomputable def ulC0 : Code := match ulBody with | .seq a _ => a | _ => .skip
noncomputable def ulC1 : Code := match ulBody with | .seq _ (.seq a _) => a | _ => .skip
noncomputable def ulR : Code := match ulBody with | .seq _ (.seq _ r) => r | _ => .skip
theorem ulBody_eq : ulBody = .seq ulC0 (.seq ulC1 ulR) := by rfl
section
variable {H : Nat → Prop} {v : World} {A1 A2 : Option Addr} {n1 c1 n2 c2 : Nat} {room : List Int} {us : List Un}
set_option maxRecDepth 100000 in
set_option maxHeartbeats 1000000 in
theorem ul_c1 (A1 A2 : Option Addr) (n1 c1 n2 c2 cb : Nat) (room : List Int) (us : List Un) (v : World) (h : RdC v A1 A2 n1 n2 room us) (hs : ShU us) (hbox : Blk v cb 26 #[.slice A1 n1 c1, .slice A2 n2 c2]) :
    ulC1.wp Try.prog (fun e a v' => (e = .normal ∧ (clOk room us = true ∧ openN us ≠ 0) ∧ a = ⟨#[(.agg #[.slice A1 n1 c1, .slice A2 n2 c2]), .pointer (some ⟨cb, 0, none⟩), .int .i64 0, undef, (.agg #[.slice A1 n1 c1, .slice A2 n2 c2]), .bool true, .bool false, .bool false, (.agg #[.slice A1 n1 c1, .slice A2 n2 c2]), .int .i64 (openN us : Nat), .bool false, .bool false, undef, undef, undef, undef, undef, undef], []⟩ ∧ GR v v') ∨ (e = .ret ∧ ¬ (clOk room us = true ∧ openN us ≠ 0) ∧ a.defers = [] ∧ a.tmps.getD 2 undef = (.int .i64 (-1)) ∧ GR v v')) ⟨#[(.agg #[.slice A1 n1 c1, .slice A2 n2 c2]), .pointer (some ⟨cb, 0, none⟩), .int .i64 0, undef, undef, undef, undef, undef, undef, undef, undef, undef, undef, undef, undef, undef, undef, undef], []⟩ v := by
  have x0 := hbox.cell 0
  have x1 := hbox.cell 1
  simp only [gT, gZ, gS] at x0 x1
  have Hr := qh h
  have Hs := qh hs
  have Hbox := qh hbox
  clear h hs hbox
  simp only [ulC1, ulBody, Try.f7, Option.getD_some]
  go_wp2_with fail
  clear x0 x1
  refine (clusterValidI_any A1 A2 n1 c1 n2 c2 room us v Hr.out Hs.out).mono ?_; rintro e w2 ⟨rfl, hb2⟩
  have B2 := qh hb2
  have P2 := qh (Hbox.out.below hb2 Hbox.out.lt)
  have R2 := qh (Hr.out.up hb2)
  clear hb2
  cases hok : clOk room us with
  | false =>
    have Hok := qh hok
    clear hok
    go_wp2_with fail
    exact ⟨by rw [Hok.out]; simp, below_gr B2.out⟩
  | true =>
    have Hok := qh hok
    clear hok
    have y0 := P2.out.cell 0
    have y1 := P2.out.cell 1
    simp only [gT, gZ, gS] at y0 y1
    go_wp2_with fail
    clear y0 y1
    refine (countOpen_any A1 A2 n1 c1 n2 c2 room us w2 R2.out (by rw [← R2.out.b.len]; exact Hs.out.1)).mono ?_; rintro e w3 ⟨rfl, hb3⟩
    have B3 := qh (B2.out.trans (hb3.mono B2.out.size))
    clear hb3
    by_cases h0 : openN us = 0
    · have H0 := qh h0
      have q : (((openN us : Nat) : Int) == 0) = true := by rw [h0]; rfl
      clear h0
      go_wp2_with fail
      exact ⟨fun _ => H0.out, below_gr B3.out⟩
    · have H0 := qh h0
      have q : (((openN us : Nat) : Int) == 0) = false := by simpa using h0
      clear h0
      go_wp2_with fail
      exact ⟨⟨Hok.out, H0.out⟩, below_gr B3.out⟩

set_option maxRecDepth 100000 in
set_option maxHeartbeats 1000000 in
theorem usageLoosest_v (h : RdC v A1 A2 n1 n2 room us) (hs : ShU us) : CallsV Try.prog H 7 #[.agg #[.slice A1 n1 c1, .slice A2 n2 c2]] v (fun x v' => x = .int .i64 (loosestP room us) ∧ GR v v') := by
  refine ⟨_, ulBody, Try.func7, by kernel_rfl, by rfl, fun cs => ?_⟩
  have e : (#[Value.agg #[.slice A1 n1 c1, .slice A2 n2 c2]] ++ Array.replicate (Try.f7.ntmps - (#[Value.agg #[.slice A1 n1 c1, .slice A2 n2 c2]] : Array Value).size) undef) = #[(.agg #[.slice A1 n1 c1, .slice A2 n2 c2]), undef, undef, undef, undef, undef, undef, undef, undef, undef, undef, undef, undef, undef, undef, undef, undef, undef] := by kernel_rfl
  have hsu := hs
  rw [e, ulBody_eq]
  clear e
  refine KV.seqC anaA_good (Nm := fun v₁ a v' => a = ⟨#[(.agg #[.slice A1 n1 c1, .slice A2 n2 c2]), .pointer (some ⟨v₁.heap.size, 0, none⟩), .int .i64 0, undef, undef, undef, undef, undef, undef, undef, undef, undef, undef, undef, undef, undef, undef, undef], []⟩ ∧ v' = v₁.alloc (.cells #[.slice A1 n1 c1, .slice A2 n2 c2] 26)) (Rt := fun _ _ _ => False) (by kernel_rfl) (by kernel_rfl) rfl (by kernel_rfl) (fun v₁ hs => ?_) (fun v₁ a' v' hs hq => ?_) (fun _ _ _ _ _ h => h.elim)
  · simp only [ulC0, ulBody, Try.f7, Option.getD_some]
    go_wp2
  obtain ⟨rfl, rfl⟩ := hq
  rw [hs.heap]
  refine KV.heap (v := v.alloc (.cells #[.slice A1 n1 c1, .slice A2 n2 c2] 26)) ?_ ⟨by show v.heap.push _ = v₁.heap.push _; rw [hs.heap], hs.os.symm, hs.output.symm⟩
  clear hs v₁
  have hg1 : GR v (v.alloc (.cells #[.slice A1 n1 c1, .slice A2 n2 c2] 26)) := below_gr (alloc_up v _)
  have hbox : Blk (v.alloc (.cells #[.slice A1 n1 c1, .slice A2 n2 c2] 26)) v.heap.size 26 #[.slice A1 n1 c1, .slice A2 n2 c2] := Blk.new v _ _
  have hr1 := h.gr hg1
  generalize v.alloc (.cells #[.slice A1 n1 c1, .slice A2 n2 c2] 26) = w1 at hg1 hbox hr1 ⊢
  refine KV.seqC anaA_good (Nm := fun v₁ a v' => (clOk room us = true ∧ openN us ≠ 0) ∧ a = ⟨#[(.agg #[.slice A1 n1 c1, .slice A2 n2 c2]), .pointer (some ⟨v.heap.size, 0, none⟩), .int .i64 0, undef, (.agg #[.slice A1 n1 c1, .slice A2 n2 c2]), .bool true, .bool false, .bool false, (.agg #[.slice A1 n1 c1, .slice A2 n2 c2]), .int .i64 (openN us : Nat), .bool false, .bool false, undef, undef, undef, undef, undef, undef], []⟩ ∧ GR v₁ v') (Rt := fun v₁ a v' => ¬ (clOk room us = true ∧ openN us ≠ 0) ∧ a.defers = [] ∧ a.tmps.getD 2 undef = (.int .i64 (-1)) ∧ GR v₁ v') (by kernel_rfl) (by kernel_rfl) rfl (by kernel_rfl) (fun v₁ hs => ?_) (fun v₁ a' v' hs hq => ?_) (fun v₁ a' v' todo hs hq => ?_)
  · exact ul_c1 A1 A2 n1 c1 n2 c2 v.heap.size room us v₁ (hr1.same hs.heap) hsu (ViewOf_cells_of hbox hs.heap)
  · obtain ⟨hcond, rfl, hg⟩ := hq
    have hg2 := hg1.trans (GR.from hs hg)
    replace hbox := hbox.grr (GR.from hs hg)
    replace hr1 := hr1.gr (GR.from hs hg)
    clear hg hs hg1
    generalize v' = w2 at hg2 hbox hr1 ⊢
    refine KV.ctl rfl (fun w => stepG_seq) ?_
    refine KV.ctl rfl (fun w => stepG_region) ?_
    try simp only [ulR, ulBody, Try.f7, Option.getD_some]
    try simp only [List.size_toArray, List.length_cons, List.length_nil, Nat.reduceAdd, Nat.zero_add, List.range, List.range.loop]
    refine KV.op anaA_good rfl (by rfl) (by decide) (by kernel_rfl) (fun t => anaA.noTr_spec (by kernel_rfl) t) (fun v₁ hs K' hK' => ?_)
    have hbx := ViewOf_cells_of hbox hs.heap
    have x0 := hbx.cell 0
    have x1 := hbx.cell 1
    simp only [gT, gZ, gS] at x0 x1
    go_simp
    refine hK' _ _ ?_
    try walk_nrm
    clear x0 x1 hbx
    clear hK' K'
    refine KV.heap (v := w2) ?_ ⟨hs.heap.symm, hs.os.symm, hs.output.symm⟩
    clear hs v₁
    refine KV.callV rfl (by rfl) (by decide) rfl (Post := fun x v' => ∃ A c, x = .slice A n2 c ∧ RdI v' v'.heap.size A n2 (leftsP room us) ∧ GR w2 v') ?_ (fun x v3 hp => ?_)
    · have hus := lefts_v (H := H) (c1 := c1) (c2 := c2) hr1 hcond.1
      simpa [Act.eval, Act.put] using hus
    obtain ⟨A3, c3, rfl, hrd, hg3⟩ := hp
    try walk_nrm
    refine KV.op anaA_good rfl (by rfl) (by decide) (by kernel_rfl) (fun t => anaA.noTr_spec (by kernel_rfl) t) (fun v₁ hs K' hK' => ?_)
    go_simp
    refine hK' _ _ ?_
    try walk_nrm
    clear hK' K'
    refine KV.heap (v := v3) ?_ ⟨hs.heap.symm, hs.os.symm, hs.output.symm⟩
    clear hs v₁
    refine KV.ctl rfl (fun w => stepG_region_end) ?_
    have hg4 := hg2.trans hg3
    refine KV.endC anaA_good (Rt := fun v₁ a v' => a.defers = [] ∧ a.tmps.getD 2 undef = .int .i64 (ixP (leftsP room us) (maxP (leftsP room us))) ∧ v' = v₁) (by kernel_rfl) (by kernel_rfl) rfl (by kernel_rfl) (fun v₁ hs => ?_) (fun v₁ a' v' todo hs hq => ?_)
    · have hrd1 : RdI v₁ v₁.heap.size A3 n2 (leftsP room us) := hrd.gain (fun p y hy => (World.cell?_of_block (by rw [hs.heap])).trans hy) (by rw [hs.heap]; exact Nat.le_refl _)
      have Hrd := qh hrd1
      have hn2 : n2 ≤ 1000 := by rw [← hr1.b.len]; exact hsu.1
      have hn1' : 1 ≤ n2 := by have := (clOk_facts hcond.1).2.1; have := hr1.b.len; omega
      clear hrd1 hs hrd
      go_wp2_with fail
      refine (sliceMax_any A3 n2 c3 _ _ v₁ Hrd.out hn1' hn2).mono ?_; rintro e w4 ⟨rfl, rfl⟩
      go_wp2_with fail
      refine (sliceIndex_any A3 n2 c3 _ _ _ v₁ Hrd.out hn2).mono ?_; rintro e w4 ⟨rfl, rfl⟩
      go_wp2_with fail
    · obtain ⟨h1, h2, rfl⟩ := hq
      refine ⟨_, a', todo, _, Try.func7, h1, rfl, resultsC_tmp rfl a'.tmps, h2.trans ?_, hg4.same hs⟩
      unfold loosestP
      rw [if_pos hcond]
  · obtain ⟨hno, h1, h2, hg⟩ := hq
    refine ⟨_, a', todo, _, Try.func7, h1, rfl, resultsC_tmp rfl a'.tmps, ?_⟩
    refine ⟨h2.trans ?_, hg1.trans (GR.from hs hg)⟩
    unfold loosestP
    rw [if_neg hno]
end
end Go.Proofs.Ytlcgbnmmbheleaa

namespace Go.Proofs.Ytlcgbnmmbheleaa
set_option linter.unusedSimpArgs false
set_option linter.unusedVariables false

theorem leftV_pos {room : List Int} {us : List Un} (h : clOk room us = true) {k : Nat} (hk : k < us.length) : 0 ≤ leftV room (us[k]?.getD (false, [])) := by
  obtain ⟨hu, h3, hb, _⟩ := uok_of h
  have hf : fits3 (loadP (us[k]?.getD (false, [])).2) room = true := by
    simp only [clOk, binsOk, Bool.and_eq_true, List.all_eq_true] at h
    exact h.1.2.2 _ (List.mem_map.2 ⟨_, un_mem hk, rfl⟩)
  rw [fits3_iff] at hf
  have f0 := hf 0 (by omega)
  have f1 := hf 1 (by omega)
  have f2 := hf 2 (by omega)
  unfold leftV
  rw [sum3 h3, sum3 (loadP_len _)]
  omega

theorem load_sum_bd {us : List Un} (h : UOk us) (k : Nat) : 0 ≤ (loadP (us[k]?.getD (false, [])).2).sum ∧ (loadP (us[k]?.getD (false, [])).2).sum ≤ 2700000 := by
  have l0 := loads_bd h k 0
  have l1 := loads_bd h k 1
  have l2 := loads_bd h k 2
  rw [sum3 (loadP_len _)]
  omega

theorem maxTo_ge (xs : List Int) : ∀ (k j : Nat), j < k → xs[j]?.getD 0 ≤ maxTo xs k
  | 0, j, h => by omega
  | k + 1, j, h => by
    unfold maxTo
    rcases Nat.lt_or_ge j k with hj | hj
    · have := maxTo_ge xs k j hj; omega
    · obtain rfl : j = k := by omega
      omega
theorem maxTo_le {xs : List Int} {m : Int} (hm : ∀ j : Nat, j < xs.length → xs[j]?.getD 0 ≤ m) (h0 : 0 < xs.length) : ∀ k : Nat, k ≤ xs.length → maxTo xs k ≤ m
  | 0, _ => hm 0 h0
  | k + 1, hk => by
    have h1 := maxTo_le hm h0 k (by omega)
    have h2 := hm k (by omega)
    unfold maxTo
    omega
theorem maxP_eq {xs : List Int} {b : Nat} (hb : b < xs.length) (hm : ∀ j : Nat, j < xs.length → xs[j]?.getD 0 ≤ xs[b]?.getD 0) : maxP xs = xs[b]?.getD 0 := by
  have h1 := maxTo_le hm (by omega) xs.length (Nat.le_refl _)
  have h2 := maxTo_ge xs xs.length b hb
  unfold maxP
  omega

def BestOf (room : List Int) (us : List Un) (k : Nat) (b : Int) : Prop :=
  (b = -1 ∧ ∀ i : Nat, i < k → (us[i]?.getD (false, [])).1 = false) ∨
  ∃ n : Nat, b = n ∧ n < k ∧ (us[n]?.getD (false, [])).1 = true ∧ (∀ i : Nat, i < k → (us[i]?.getD (false, [])).1 = true → leftV room (us[i]?.getD (false, [])) ≤ leftV room (us[n]?.getD (false, []))) ∧
    ∀ i : Nat, i < n → (us[i]?.getD (false, [])).1 = true → leftV room (us[i]?.getD (false, [])) < leftV room (us[n]?.getD (false, []))
theorem best_of (room : List Int) (us : List Un) : ∀ k : Nat, BestOf room us k (bestU room us k)
  | 0 => .inl ⟨rfl, fun i hi => absurd hi (Nat.not_lt_zero _)⟩
  | k + 1 => by
    have ih := best_of room us k
    unfold bestU
    split
    · rename_i hc
      refine .inr ⟨k, rfl, by omega, hc.1, fun i hi ho => ?_, fun i hi ho => ?_⟩
      · rcases ih with ⟨e, hno⟩ | ⟨n, e, hn, h1, h2, h3⟩
        · rcases Nat.lt_or_ge i k with h | h
          · rw [hno i h] at ho; cases ho
          · rw [show i = k by omega]; omega
        · rcases hc.2 with hc | hc
          · omega
          · rw [e, Int.toNat_natCast] at hc
            rcases Nat.lt_or_ge i k with h | h
            · have := h2 i h ho; omega
            · rw [show i = k by omega]; omega
      · rcases ih with ⟨e, hno⟩ | ⟨n, e, hn, h1, h2, h3⟩
        · rw [hno i hi] at ho; cases ho
        · rcases hc.2 with hc | hc
          · omega
          · rw [e, Int.toNat_natCast] at hc
            have := h2 i hi ho; omega
    · rename_i hc
      rcases ih with ⟨e, hno⟩ | ⟨n, e, hn, h1, h2, h3⟩
      · refine .inl ⟨e, fun i hi => ?_⟩
        rcases Nat.lt_or_ge i k with h | h
        · exact hno i h
        · rw [show i = k by omega]
          cases ho : (us[k]?.getD (false, [])).1 with
          | false => rfl
          | true => exact absurd ⟨ho, .inl (by omega)⟩ hc
      · refine .inr ⟨n, e, by omega, h1, fun i hi ho => ?_, h3⟩
        rcases Nat.lt_or_ge i k with h | h
        · exact h2 i h ho
        · rw [show i = k by omega] at ho ⊢
          rw [e, Int.toNat_natCast] at hc
          refine Int.not_lt.1 fun hlt => hc ⟨ho, .inr hlt⟩

theorem open_some {us : List Un} (h : openN us = 0) (i : Nat) : (us[i]?.getD (false, [])).1 = false := by
  cases ho : (us[i]?.getD (false, [])).1 with
  | false => rfl
  | true =>
    exfalso
    rcases Nat.lt_or_ge i us.length with hi | hi
    · unfold openN at h
      have := List.eq_nil_of_length_eq_zero h
      have hm : us[i]?.getD (false, []) ∈ us.filter (·.1) := List.mem_filter.2 ⟨un_mem hi, ho⟩
      rw [this] at hm; cases hm
    · rw [List.getElem?_eq_none hi] at ho; cases ho
theorem open_none {us : List Un} (h : ∀ i : Nat, i < us.length → (us[i]?.getD (false, [])).1 = false) : openN us = 0 := by
  unfold openN
  rw [List.filter_eq_nil_iff.2 fun u hu => ?_]
  · rfl
  · obtain ⟨i, hi, rfl⟩ := List.getElem_of_mem hu
    have := h i hi
    rw [List.getElem?_eq_getElem hi] at this
    simpa using this

theorem lefts_at {room : List Int} {us : List Un} {i : Nat} (hi : i < us.length) : (leftsP room us)[i]?.getD 0 = leftP room (us[i]?.getD (false, [])) := by
  unfold leftsP
  rw [List.getElem?_map, List.getElem?_eq_getElem hi]
  rfl

theorem loosest_eq (room : List Int) (us : List Un) : loosestP room us = loosestS room us := by
  unfold loosestP loosestS
  by_cases hok : clOk room us = true
  · rw [if_pos hok]
    rcases best_of room us us.length with ⟨e, hno⟩ | ⟨n, e, hn, h1, h2, h3⟩
    · rw [if_neg (fun h => h.2 (open_none hno)), e]
    · have ho : openN us ≠ 0 := fun h0 => by rw [open_some h0 n] at h1; cases h1
      rw [if_pos ⟨hok, ho⟩, e]
      have hll : (leftsP room us).length = us.length := by simp [leftsP]
      have hval : ∀ i, i < us.length → (leftsP room us)[i]?.getD 0 = if (us[i]?.getD (false, [])).1 = true then leftV room (us[i]?.getD (false, [])) else -1 := fun i hi => by
        rw [lefts_at hi]; rfl
      have hvn : (leftsP room us)[n]?.getD 0 = leftV room (us[n]?.getD (false, [])) := by rw [hval n hn, if_pos h1]
      have hpos := leftV_pos hok hn
      have hmax : maxP (leftsP room us) = (leftsP room us)[n]?.getD 0 := maxP_eq (by omega) fun j hj => by
        rw [hll] at hj
        rw [hval j hj, hvn]
        split
        · rename_i hoj; exact h2 j hj hoj
        · omega
      rw [hmax]
      refine ix_some (fun j hj => ?_) (by omega) rfl
      rw [hval j (by omega), hvn]
      split
      · rename_i hoj; have := h3 j hj hoj; omega
      · omega
  · rw [if_neg hok, if_neg fun h => hok h.1]

theorem loosest_law {room : List Int} {us : List Un} (h : ¬ loosestS room us < 0) : ∃ n : Nat, loosestS room us = n ∧ clOk room us = true ∧ n < us.length ∧ (us[n]?.getD (false, [])).1 = true ∧
    ∀ i : Nat, i < us.length → (us[i]?.getD (false, [])).1 = true → ¬ ((loadP (us[i]?.getD (false, [])).2).sum < (loadP (us[n]?.getD (false, [])).2).sum) ∧ ¬ ((i : Int) < n ∧ (loadP (us[i]?.getD (false, [])).2).sum = (loadP (us[n]?.getD (false, [])).2).sum) := by
  unfold loosestS at h ⊢
  by_cases hok : clOk room us = true
  · rw [if_pos hok] at h ⊢
    rcases best_of room us us.length with ⟨e, hno⟩ | ⟨n, e, hn, h1, h2, h3⟩
    · omega
    · refine ⟨n, e, hok, hn, h1, fun i hi ho => ⟨fun hlt => ?_, fun ⟨hlt, heq⟩ => ?_⟩⟩
      · have := h2 i hi ho
        unfold leftV at this
        omega
      · have := h3 i (by omega) ho
        unfold leftV at this
        omega
  · rw [if_neg hok] at h
    omega
end Go.Proofs.Ytlcgbnmmbheleaa
