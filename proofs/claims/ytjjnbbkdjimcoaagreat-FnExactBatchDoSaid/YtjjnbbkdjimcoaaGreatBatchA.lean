/- Walks: the program's countOpen and batchValid; words for a channel's buffer. -/
import Derived.Test.YtjjnbbkdjimcoaaGreatSortI
import Derived.Test.YtjjnbbkdjimcoaaGreatJ18
import Derived.Test.YtjjnbbkdjimcoaaGreatJ14
import Derived.Test.YtjjnbbkdjimcoaaGreatJ2
namespace Go.Proofs.YtjjnbbkdjimcoaaGreat
set_option linter.unusedSimpArgs false
set_option linter.unusedVariables false
open Go Go.RowKit
attribute [local go_sem ↓] Go.wp_at_zero Go.wp_at_succ

theorem rankU_le (us : List Un) (i : Nat) : rankU us i ≤ i := Nat.le_trans (List.length_filter_le _ _) (by rw [List.length_take]; omega)
set_option maxRecDepth 100000 in
set_option maxHeartbeats 1600000 in
theorem countOpen_any (A1 A2 : Option Addr) (n1 c1 n2 c2 : Nat) (room : List Int) (us : List Un) (w : World) (h : RdC w A1 A2 n1 n2 room us) (hs : n2 ≤ 1000) :
    Calls Tryz.prog 89 #[.agg #[.slice A1 n1 c1, .slice A2 n2 c2]] w fun e w' => e = .returned (.int .i64 (openN us : Nat)) ∧ Below w.heap.size w w' := by
  have Hl := qh h.b.len
  have B1 := qh (alloc_up w (.cells #[.slice A1 n1 c1, .slice A2 n2 c2] 26))
  have N1 := qh (h.b.below B1.out)
  have lz := B1.out.size
  have sz : (w.alloc (.cells #[.slice A1 n1 c1, .slice A2 n2 c2] 26)).heap.size = w.heap.size + 1 := World.size_alloc _ _
  have Z1 := Blk.new w 26 #[.slice A1 n1 c1, .slice A2 n2 c2]
  have x1 := Z1.cell 1
  simp only [gT, gZ, gS] at x1
  clear h
  go_enter Tryz.func89, Tryz.ntmps89
  go_wp2_with fail
  clear x1 Z1
  generalize w.alloc (.cells #[.slice A1 n1 c1, .slice A2 n2 c2] 26) = w1 at B1 N1 lz sz ⊢
  go_loopw [3, 9] (fun v kv wr => ∃ k : Nat, kv = .int .i64 (k : Nat) ∧ k ≤ n2 ∧ v = .int .i64 (rankU us k : Nat) ∧ Below w.heap.size w1 wr) (fun _ kv _ => n2 - (intOf kv).toNat)
  case atStart => exact ⟨0, rfl, Nat.zero_le _, by rw [rank_zero]; rfl, Below.refl _ _⟩
  case round =>
    obtain ⟨k, rfl, hk, rfl, hbr⟩ := hrel
    have HB := qh hbr
    clear hbr
    by_cases hlt : k < n2
    · have q1 : (0 : Int) ≤ (k : Int) := by omega
      have q2 : (k : Int) < (n2 : Int) := by omega
      have q5 : 0 ≤ (k : Int) * 2 := by omega
      have hku : k < us.length := by have := Hl.out; omega
      obtain ⟨b, o, Ak, mk, ck, rfl, lb, e0, e1, hmk, hrd⟩ := (N1.out.below HB.out).at_ hlt
      have r1 := rank_succ hku
      have l1 := rankU_le us k
      have lzr := HB.out.size
      have v1 : IntKind.i64.wrap ((rankU us k : Int) + 1) = (rankU us k : Int) + 1 := wr64 (by omega) (by omega)
      clear hrd hmk
      generalize hop : (us[k]?.getD (false, [])).1 = op at e0 r1
      have R1 := qh r1
      clear r1 hop
      have Hn := qh (HB.out.trans ((alloc_up wr (.cells #[.bool op, .slice Ak mk ck] 72)).mono (by omega)))
      cases op with
      | true =>
        go_wp2_with fail
        go_roundw
        case rel => exact ⟨k + 1, by go_num, by omega, by rw [R1.out]; rfl, Hn.out⟩
        case measure => simp [intOf]; omega
      | false =>
        go_wp2_with fail
        go_roundw
        case rel => exact ⟨k + 1, by go_num, by omega, by rw [R1.out]; rfl, Hn.out⟩
        case measure => simp [intOf]; omega
    · obtain rfl : k = n2 := by omega
      go_wp2_with fail
      go_ret
      refine ⟨ret_int (by rw [show rankU us k = openN us from by rw [← openN_rank, Hl.out]]), B1.out.trans HB.out⟩

set_option maxRecDepth 100000 in
set_option maxHeartbeats 1600000 in
theorem batchValid_any (A1 A2 A : Option Addr) (n1 c1 n2 c2 n c : Nat) (g : Int) (room : List Int) (us : List Un) (ts : List Tk) (w : World) (h : RdC w A1 A2 n1 n2 room us) (hs : ShV us) (ht : RdT w w.heap.size A n ts) :
    Calls Tryz.prog 46 #[.agg #[.slice A1 n1 c1, .slice A2 n2 c2], .slice A n c, .int .i64 g] w fun e w' => e = .returned (.bool (bokP room us ts g)) ∧ Below w.heap.size w w' := by
  have al := alloc_up w (.cells #[.slice A1 n1 c1, .slice A2 n2 c2] 26)
  have B1 := qh al
  have H1 := qh (h.up al)
  have T1 := qh (ht.up al)
  have Z1 := qh (Blk.new w 26 #[.slice A1 n1 c1, .slice A2 n2 c2])
  have Hs := qh hs
  clear al h hs ht
  have x0 := Z1.out.cell 0
  have x1 := Z1.out.cell 1
  simp only [gT, gZ, gS] at x0 x1
  go_enter Tryz.func46, Tryz.ntmps46
  go_wp2_with fail
  clear x0 x1
  have lzb := B1.out.size
  generalize w.heap.size = gb at Z1 ⊢
  generalize w.alloc (.cells #[.slice A1 n1 c1, .slice A2 n2 c2] 26) = w1 at B1 H1 T1 Z1 lzb ⊢
  refine (clusterValidIV_any A1 A2 n1 c1 n2 c2 room us w1 H1.out Hs.out).mono ?_; rintro e w2 ⟨rfl, hb2⟩
  have B2 := qh (B1.out.trans (hb2.mono lzb))
  have lzb2 := B2.out.size
  have Z2 := qh (Z1.out.below hb2 Z1.out.lt)
  have H2 := qh (H1.out.up hb2)
  have T2 := qh (T1.out.up hb2)
  have y0 := Z2.out.cell 0
  simp only [gT, gZ, gS] at y0
  clear hb2 B1 Z1 H1 T1
  cases hok : clOk room us with
  | false =>
    have Hok := qh hok
    clear hok
    go_wp2_with fail
    go_ret
    exact ⟨ret_bool (by simp [bokP, Hok.out]), B2.out⟩
  | true =>
    have Hok := qh hok
    clear hok
    go_wp2_with fail
    refine (tasksValidI_any A1 A n1 c1 n c room ts w2 H2.out.a T2.out).mono ?_; rintro e w3 ⟨rfl, hb3⟩
    have B3 := qh (B2.out.trans (hb3.mono lzb2))
    clear hb3 B2 H2 T2 y0 Z2
    cases hto : tasksOk room ts with
    | false =>
      have Hto := qh hto
      clear hto
      go_wp2_with fail
      go_ret
      exact ⟨ret_bool (by simp [bokP, Hok.out, Hto.out]), B3.out⟩
    | true =>
      have Hto := qh hto
      clear hto
      go_wp2_with fail
      refine (within_any g 0 10 w3).mono ?_; rintro e w4 ⟨rfl, rfl⟩
      go_wp2_with fail
      go_ret
      exact ⟨ret_bool (by simp [bokP, Hok.out, Hto.out]), B3.out⟩
end Go.Proofs.YtjjnbbkdjimcoaaGreat
