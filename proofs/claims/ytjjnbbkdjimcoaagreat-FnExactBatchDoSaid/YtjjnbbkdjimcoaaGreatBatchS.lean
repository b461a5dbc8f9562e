/- Walks (the reference): l22Open, l22Place, l22Ok. -/
import Derived.Test.YtjjnbbkdjimcoaaGreatSortS
import Derived.Test.YtjjnbbkdjimcoaaGreatJ18
import Derived.Test.YtjjnbbkdjimcoaaGreatJ5
namespace Go.Proofs.YtjjnbbkdjimcoaaGreat
set_option linter.unusedSimpArgs false
set_option linter.unusedVariables false
open Go Go.RowKit
attribute [local go_sem ↓] Go.wp_at_zero Go.wp_at_succ

theorem rankU_leS (us : List Un) (i : Nat) : rankU us i ≤ i := Nat.le_trans (List.length_filter_le _ _) (by rw [List.length_take]; omega)
set_option maxRecDepth 100000 in
set_option maxHeartbeats 1600000 in
theorem l22Open_any (A1 A2 : Option Addr) (n1 c1 n2 c2 : Nat) (room : List Int) (us : List Un) (w : World) (h : RdC w A1 A2 n1 n2 room us) (hs : n2 ≤ 1000) :
    Calls Tryz.prog 59 #[.agg #[.slice A1 n1 c1, .slice A2 n2 c2]] w fun e w' => e = .returned (.int .i64 (openN us : Nat)) ∧ Below w.heap.size w w' := by
  have Hl := qh h.b.len
  have B1 := qh (alloc_up w (.cells #[.slice A1 n1 c1, .slice A2 n2 c2] 26))
  have N1 := qh (h.b.below B1.out)
  have Z1 := qh (Blk.new w 26 #[.slice A1 n1 c1, .slice A2 n2 c2])
  have x1 := Z1.out.cell 1
  simp only [gT, gZ, gS] at x1
  clear h
  go_enter Tryz.func59, Tryz.ntmps59
  go_wp2_with fail
  generalize w.alloc (.cells #[.slice A1 n1 c1, .slice A2 n2 c2] 26) = w1 at B1 N1 x1 ⊢
  clear Z1
  go_loop [3, 4] (fun v kv => ∃ k : Nat, kv = .int .i64 (k : Nat) ∧ k ≤ n2 ∧ v = .int .i64 (rankU us k : Nat)) (fun _ kv => n2 - (intOf kv).toNat)
  case atStart => exact ⟨0, rfl, Nat.zero_le _, by rw [rank_zero]; rfl⟩
  case round =>
    obtain ⟨k, rfl, hk, rfl⟩ := hrel
    by_cases hlt : k < n2
    · have q1 : (0 : Int) ≤ (k : Int) := by omega
      have q2 : (k : Int) < (n2 : Int) := by omega
      have q5 : 0 ≤ (k : Int) * 2 := by omega
      have hku : k < us.length := by have := Hl.out; omega
      obtain ⟨b, o, Ak, mk, ck, rfl, lb, e0, e1, hmk, hrd⟩ := N1.out.at_ hlt
      have r1 := rank_succ hku
      have l1 := rankU_leS us k
      have v1 : IntKind.i64.wrap ((rankU us k : Int) + 1) = (rankU us k : Int) + 1 := wr64 (by omega) (by omega)
      have v2 : IntKind.i64.wrap ((k : Int) + 1) = (k : Int) + 1 := wr64 (by omega) (by omega)
      clear hrd hmk
      generalize hop : (us[k]?.getD (false, [])).1 = op at e0 r1
      have R1 := qh r1
      clear r1 hop
      cases op with
      | true =>
        go_wp2_with fail
        go_round
        case rel => exact ⟨k + 1, by go_num, by omega, by rw [R1.out]; rfl⟩
        case measure => simp [intOf]; omega
      | false =>
        go_wp2_with fail
        go_round
        case rel => exact ⟨k + 1, by go_num, by omega, by rw [R1.out]; rfl⟩
        case measure => simp [intOf]; omega
    · obtain rfl : k = n2 := by omega
      go_wp2_with fail
      go_ret
      exact ⟨ret_int (by rw [show rankU us k = openN us from by rw [← openN_rank, Hl.out]]), B1.out⟩

set_option maxRecDepth 100000 in
set_option maxHeartbeats 1600000 in
theorem l22Place_any (A : Option Addr) (n c j : Nat) (ts : List Tk) (w : World) (h : RdT w w.heap.size A n ts) (hd : (ts.map (·.1)).Nodup) (hj : j < n) :
    Calls Tryz.prog 61 #[.slice A n c, .int .i64 (gTk ts j).1] w fun e w' => e = .returned (.int .i64 (j : Nat)) ∧ w = w' := by
  have Hl := qh h.len
  have H := qh h
  have Hd := qh hd
  have hle := h.le
  clear h hd
  go_enter Tryz.func61, Tryz.ntmps61
  go_wp2_with fail
  go_loop [5] (fun kv => ∃ k : Nat, kv = .int .i64 (k : Nat) ∧ k ≤ j) (fun kv => n - (intOf kv).toNat)
  case atStart => exact ⟨0, rfl, Nat.zero_le _⟩
  case round =>
    obtain ⟨k, rfl, hk⟩ := hrel
    have hlt : k < n := by omega
    have q1 : (0 : Int) ≤ (k : Int) := by omega
    have q2 : (k : Int) < (n : Int) := by omega
    have q5 : 0 ≤ (k : Int) * 2 := by omega
    have v2 : IntKind.i64.wrap ((k : Int) + 1) = (k : Int) + 1 := wr64 (by omega) (by omega)
    obtain ⟨b, o, An, mn, cn, rfl, lb, d1, d2, hmn, hnd⟩ := H.out.at_ hlt
    change w.cell? _ = some (.int .i64 (gTk ts k).1) at d1
    clear hnd hmn
    by_cases e : k = j
    · subst e
      have t1 : ((gTk ts k).1 == (gTk ts k).1) = true := by simp
      go_wp2_with fail
      go_ret
      exact ⟨rfl, rfl⟩
    · have hne : (gTk ts k).1 ≠ (gTk ts j).1 := fun he => e (by
        have hl := Hl.out
        have h1 : (ts.map (·.1))[k]'(by rw [List.length_map]; omega) = (ts.map (·.1))[j]'(by rw [List.length_map]; omega) := by
          simp only [List.getElem_map]
          unfold gTk at he
          rw [List.getElem?_eq_getElem (by omega), List.getElem?_eq_getElem (by omega)] at he
          exact he
        exact absurd h1 (List.pairwise_iff_getElem.1 Hd.out k j (by rw [List.length_map]; omega) (by rw [List.length_map]; omega) (by omega)))
      have t1 : ((gTk ts k).1 == (gTk ts j).1) = false := by simpa using hne
      clear hne
      generalize (gTk ts k).1 = ik at *
      go_wp2_with fail
      go_round
      case rel => exact ⟨k + 1, by go_num, by omega⟩
      case measure => simp [intOf]; omega

set_option maxRecDepth 100000 in
set_option maxHeartbeats 1600000 in
theorem l22Ok_any (A1 A2 A : Option Addr) (n1 c1 n2 c2 n c : Nat) (g : Int) (room : List Int) (us : List Un) (ts : List Tk) (w : World) (h : RdC w A1 A2 n1 n2 room us) (hs : ShV us) (ht : RdT w w.heap.size A n ts) :
    Calls Tryz.prog 49 #[.agg #[.slice A1 n1 c1, .slice A2 n2 c2], .slice A n c, .int .i64 g] w fun e w' => e = .returned (.bool (bokP room us ts g)) ∧ Below w.heap.size w w' := by
  have al := alloc_up w (.cells #[.slice A1 n1 c1, .slice A2 n2 c2] 26)
  have B1 := qh al
  have H1 := qh (h.up al)
  have T1 := qh (ht.up al)
  have Z1 := qh (Blk.new w 26 #[.slice A1 n1 c1, .slice A2 n2 c2])
  have Hs := qh hs
  clear al h hs ht
  have x0 := Z1.out.cell 0
  have x1 := Z1.out.cell 1
  simp only [gT, gZ, gS] at x0 x1
  go_enter Tryz.func49, Tryz.ntmps49
  go_wp2_with fail
  clear x0 x1
  have lzb := B1.out.size
  generalize w.heap.size = gb at Z1 ⊢
  generalize w.alloc (.cells #[.slice A1 n1 c1, .slice A2 n2 c2] 26) = w1 at B1 H1 T1 Z1 lzb ⊢
  refine (clusterValidSV_any A1 A2 n1 c1 n2 c2 room us w1 H1.out Hs.out).mono ?_; rintro e w2 ⟨rfl, hb2⟩
  have B2 := qh (B1.out.trans (hb2.mono lzb))
  have lzb2 := B2.out.size
  have Z2 := qh (Z1.out.below hb2 Z1.out.lt)
  have H2 := qh (H1.out.up hb2)
  have T2 := qh (T1.out.up hb2)
  have y0 := Z2.out.cell 0
  simp only [gT, gZ, gS] at y0
  clear hb2 B1 Z1 H1 T1
  cases hok : clOk room us with
  | false =>
    have Hok := qh hok
    clear hok
    go_wp2_with fail
    go_ret
    exact ⟨ret_bool (by simp [bokP, Hok.out]), B2.out⟩
  | true =>
    have Hok := qh hok
    clear hok
    go_wp2_with fail
    refine (tasksValidS_any A1 A n1 c1 n c room ts w2 H2.out.a T2.out).mono ?_; rintro e w3 ⟨rfl, m, rfl⟩
    have B3 := qh (below_drewN B2.out m)
    clear B2 H2 T2 y0 Z2
    cases hto : tasksOk room ts with
    | false =>
      have Hto := qh hto
      clear hto
      go_wp2_with fail
      go_ret
      exact ⟨ret_bool (by simp [bokP, Hok.out, Hto.out]), B3.out⟩
    | true =>
      have Hto := qh hto
      clear hto
      go_wp2_with fail
      refine (l6In_any g 0 10 _).mono ?_; rintro e w4 ⟨rfl, rfl⟩
      go_wp2_with fail
      go_ret
      exact ⟨ret_bool (by simp [bokP, Hok.out, Hto.out]), B3.out⟩
end Go.Proofs.YtjjnbbkdjimcoaaGreat
