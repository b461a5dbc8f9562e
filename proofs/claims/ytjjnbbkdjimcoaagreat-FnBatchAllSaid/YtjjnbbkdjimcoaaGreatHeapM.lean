/- Walks: the queue's methods behind an interface value; container/heap's down. -/
import Derived.Test.YtjjnbbkdjimcoaaGreatHeapSwap
import Derived.Deep.LoopGhost
namespace Go.Proofs.YtjjnbbkdjimcoaaGreat
set_option linter.unusedSimpArgs false
set_option linter.unusedVariables false
open Go Go.RowKit
attribute [local go_sem ↓] Go.wp_at_zero Go.wp_at_succ

/-- A queue behind a pointer, with its tasks. -/
structure QH (w : World) (base q g n c : Nat) (ts : List Tk) : Prop where
  bq : Blk w q 147 #[.slice (some ⟨g, 0, none⟩) n c]
  ne : q ≠ g
  own : ∃ vs, w.ownsRow base 43 2 (.slice (some ⟨g, 0, none⟩) n c) n vs ∧ NdR w base n vs ts
/-- The interface value. -/
abbrev qIf (q : Nat) : Value := .iface 149 (.pointer (some ⟨q, 0, none⟩))

section
variable {w : World} {q : Nat} {v : Value}
theorem m_less (h : w.cell? ⟨q, 0, none⟩ = some v) : (Go.method 299 149 (.pointer (some ⟨q, 0, none⟩)) "Less").run Tryz.prog w = .ok (180, v) w := by
  have e : (Go.method 299 149 (.pointer (some ⟨q, 0, none⟩)) "Less").run Tryz.prog w = (do let v ← loadVar 147 ⟨q, 0, none⟩; pure ((180 : FuncId), v)).run Tryz.prog w := by kernel_rfl
  rw [e]
  simp [go_sem, h]
theorem m_len (h : w.cell? ⟨q, 0, none⟩ = some v) : (Go.method 299 149 (.pointer (some ⟨q, 0, none⟩)) "Len").run Tryz.prog w = .ok (125, v) w := by
  have e : (Go.method 299 149 (.pointer (some ⟨q, 0, none⟩)) "Len").run Tryz.prog w = (do let v ← loadVar 147 ⟨q, 0, none⟩; pure ((125 : FuncId), v)).run Tryz.prog w := by kernel_rfl
  rw [e]
  simp [go_sem, h]
theorem m_swap (h : w.cell? ⟨q, 0, none⟩ = some v) : (Go.method 299 149 (.pointer (some ⟨q, 0, none⟩)) "Swap").run Tryz.prog w = .ok (181, v) w := by
  have e : (Go.method 299 149 (.pointer (some ⟨q, 0, none⟩)) "Swap").run Tryz.prog w = (do let v ← loadVar 147 ⟨q, 0, none⟩; pure ((181 : FuncId), v)).run Tryz.prog w := by kernel_rfl
  rw [e]
  simp [go_sem, h]
theorem m_pop (q : Nat) (w : World) : (Go.method 299 149 (.pointer (some ⟨q, 0, none⟩)) "Pop").run Tryz.prog w = .ok (187, .pointer (some ⟨q, 0, none⟩)) w := by kernel_rfl
end
section
variable {w w' : World} {base q g n c : Nat} {ts : List Tk}
theorem QH.len (h : QH w base q g n c ts) : ts.length = n := by obtain ⟨vs, _, h2⟩ := h.own; exact h2.1
theorem QH.cell (h : QH w base q g n c ts) : w.cell? ⟨q, 0, none⟩ = some (.slice (some ⟨g, 0, none⟩) n c) := by have := h.bq.cell 0; simpa using this
theorem QH.lt (h : QH w base q g n c ts) : g < w.heap.size := by obtain ⟨vs, h1, _⟩ := h.own; exact (h1.lt g rfl).2
theorem QH.up (h : QH w base q g n c ts) (hb : Below w.heap.size w w') : QH w' base q g n c ts := ⟨h.bq.below hb h.bq.lt, h.ne, by
  obtain ⟨vs, h1, h2⟩ := h.own
  exact ⟨vs, own_up' h1 hb, h2.keepTI (KeepTI.up hb)⟩⟩
theorem QH.drew (h : QH w base q g n c ts) : QH w.drew base q g n c ts := h.up ((Below.refl _ _).drew)
end

set_option maxRecDepth 100000 in
set_option maxHeartbeats 3200000 in
theorem down_any (base q g n0 c i n f : Nat) (ts : List Tk) (w : World) (h : QH w base q g n0 c ts) (hs : SmT ts) (hn : n ≤ n0) (hn0 : n0 ≤ 1000) (hi : i ≤ n0) (hf : n ≤ i + f) :
    Calls Tryz.prog 141 #[qIf q, .int .i64 (i : Int), .int .i64 (n : Int)] w fun e w' => (∃ b, e = .returned (.bool b)) ∧ QH w' base q g n0 c (downP f ts i n) ∧ OnlyG w w' g := by
  have H := qh h
  have Hs := qh hs
  have Hf := qh hf
  clear h hs hf
  go_enter Tryz.func141, Tryz.ntmps141
  go_wp2_with fail
  go_loopw [7] (fun v wr => ∃ (j f' : Nat) (ts' : List Tk), v = .int .i64 (j : Nat) ∧ j ≤ n0 ∧ QH wr base q g n0 c ts' ∧ SmT ts' ∧ n ≤ j + f' ∧ downP f' ts' j n = downP f ts i n ∧ OnlyG w wr g) (fun v _ => n0 + 1 - (intOf v).toNat)
  case atStart => exact ⟨i, f, ts, rfl, hi, H.out, Hs.out, Hf.out, rfl, OnlyG.refl _ _⟩
  case round =>
    clear H Hs Hf
    obtain ⟨j, f', ts', rfl, hj, hq, hs, hf, he, hg⟩ := hrel
    have HQ := qh hq
    have HS := qh hs
    have HE := qh he
    have HG := qh hg
    have Hfl := qh hf
    have HQL := qh hq.len
    clear hq hs he hg hf
    have v0 : IntKind.i64.wrap (2 * (j : Int)) = 2 * (j : Int) := wr64 (by omega) (by omega)
    have v1 : IntKind.i64.wrap (2 * (j : Int) + 1) = 2 * (j : Int) + 1 := wr64 (by omega) (by omega)
    have v2 : IntKind.i64.wrap (2 * (j : Int) + 1 + 1) = 2 * (j : Int) + 1 + 1 := wr64 (by omega) (by omega)
    by_cases hlt : 2 * j + 1 < n
    · have t1 : decide ((n : Int) ≤ 2 * (j : Int) + 1) = false := by simp; omega
      have t2 : decide (2 * (j : Int) + 1 < 0) = false := by simp; omega
      obtain ⟨f2, rfl⟩ : ∃ f2, f' = f2 + 1 := ⟨f' - 1, by have := Hfl.out; omega⟩
      by_cases h2 : 2 * j + 1 + 1 < n
      · have t3 : decide (2 * (j : Int) + 1 + 1 < (n : Int)) = true := by simp; omega
        have hm := m_less HQ.out.cell
        obtain ⟨vs, hown, hnd⟩ := HQ.out.own
        have hc := less_any base g n0 c (2 * j + 1 + 1) (2 * j + 1) vs ts' wr hown hnd HS.out (by omega) (by omega)
        rw [show ((2 * j + 1 + 1 : Nat) : Int) = 2 * (j : Int) + 1 + 1 from by omega, show ((2 * j + 1 : Nat) : Int) = 2 * (j : Int) + 1 from by omega] at hc
        have HC := qh hc
        clear hown hnd hc
        go_wp2_with fail
        refine HC.out.mono ?_; rintro e w2 ⟨rfl, hb⟩
        have HQ2 := qh (HQ.out.up hb)
        have HG2 := qh (HG.out.below hb)
        clear HC hm HQ HG hb
        cases hcc : befP (gTk ts' (2 * j + 1 + 1)) (gTk ts' (2 * j + 1)) with
        | true =>
          have HCH := qh (show childP ts' j n = 2 * j + 1 + 1 by unfold childP; rw [if_pos ⟨h2, hcc⟩])
          clear hcc
          have hm := m_less HQ2.out.cell
          obtain ⟨vs, hown, hnd⟩ := HQ2.out.own
          have hc := less_any base g n0 c (2 * j + 1 + 1) j vs ts' w2 hown hnd HS.out (by omega) (by omega)
          rw [show ((2 * j + 1 + 1 : Nat) : Int) = 2 * (j : Int) + 1 + 1 from by omega] at hc
          have HC3 := qh hc
          clear hown hnd hc
          go_wp2_with fail
          refine HC3.out.mono ?_; rintro e w3 ⟨rfl, hb⟩
          have HQ3 := qh (HQ2.out.up hb)
          have HG3 := qh (HG2.out.below hb)
          clear HC3 hm HQ2 HG2 hb
          cases hb3 : befP (gTk ts' (2 * j + 1 + 1)) (gTk ts' j) with
          | true =>
            have HB3 := qh hb3
            have hm := m_swap HQ3.out.cell
            obtain ⟨vs, hown, hnd⟩ := HQ3.out.own
            have hc := swap_any base g n0 c j (2 * j + 1 + 1) vs ts' w3 hown hnd (by omega) (by omega)
            rw [show ((2 * j + 1 + 1 : Nat) : Int) = 2 * (j : Int) + 1 + 1 from by omega] at hc
            have HC4 := qh hc
            clear hown hnd hc hb3
            go_wp2_with fail
            refine HC4.out.mono ?_; rintro e w4 ⟨rfl, ⟨vs4, ho4, hn4⟩, hg4⟩
            have HQ4 := qh (show QH w4 base q g n0 c (swapP ts' j (2 * j + 1 + 1)) from ⟨hg4.blk HQ3.out.bq HQ3.out.ne, HQ3.out.ne, vs4, ho4, hn4⟩)
            have HG4 := qh (HG3.out.trans hg4)
            clear HC4 hm HQ3 HG3 ho4 hn4 hg4
            go_wp2_with fail
            go_roundw
            case rel => exact ⟨2 * j + 1 + 1, f2, swapP ts' j (2 * j + 1 + 1), by go_num, by omega, HQ4.out, HS.out.perm (swap_perm (by have := HQL.out; omega) (by have := HQL.out; omega)), by have := Hfl.out; omega, by rw [← HE.out, downP, if_neg (by omega), HCH.out, if_pos HB3.out], HG4.out⟩
            case measure => simp [intOf]; omega
          | false =>
            have HB3 := qh hb3
            clear hb3
            go_wp2_with fail
            go_ret
            refine ⟨⟨_, rfl⟩, ?_, HG3.out⟩
            rw [← HE.out, downP, if_neg (by omega), HCH.out, if_neg (by rw [HB3.out]; simp)]
            exact HQ3.out
        | false =>
          have HCH := qh (show childP ts' j n = 2 * j + 1 by unfold childP; rw [if_neg (fun h => by rw [hcc] at h; cases h.2)])
          clear hcc
          have hm := m_less HQ2.out.cell
          obtain ⟨vs, hown, hnd⟩ := HQ2.out.own
          have hc := less_any base g n0 c (2 * j + 1) j vs ts' w2 hown hnd HS.out (by omega) (by omega)
          rw [show ((2 * j + 1 : Nat) : Int) = 2 * (j : Int) + 1 from by omega] at hc
          have HC3 := qh hc
          clear hown hnd hc
          go_wp2_with fail
          refine HC3.out.mono ?_; rintro e w3 ⟨rfl, hb⟩
          have HQ3 := qh (HQ2.out.up hb)
          have HG3 := qh (HG2.out.below hb)
          clear HC3 hm HQ2 HG2 hb
          cases hb3 : befP (gTk ts' (2 * j + 1)) (gTk ts' j) with
          | true =>
            have HB3 := qh hb3
            have hm := m_swap HQ3.out.cell
            obtain ⟨vs, hown, hnd⟩ := HQ3.out.own
            have hc := swap_any base g n0 c j (2 * j + 1) vs ts' w3 hown hnd (by omega) (by omega)
            rw [show ((2 * j + 1 : Nat) : Int) = 2 * (j : Int) + 1 from by omega] at hc
            have HC4 := qh hc
            clear hown hnd hc hb3
            go_wp2_with fail
            refine HC4.out.mono ?_; rintro e w4 ⟨rfl, ⟨vs4, ho4, hn4⟩, hg4⟩
            have HQ4 := qh (show QH w4 base q g n0 c (swapP ts' j (2 * j + 1)) from ⟨hg4.blk HQ3.out.bq HQ3.out.ne, HQ3.out.ne, vs4, ho4, hn4⟩)
            have HG4 := qh (HG3.out.trans hg4)
            clear HC4 hm HQ3 HG3 ho4 hn4 hg4
            go_wp2_with fail
            go_roundw
            case rel => exact ⟨2 * j + 1, f2, swapP ts' j (2 * j + 1), by go_num, by omega, HQ4.out, HS.out.perm (swap_perm (by have := HQL.out; omega) (by have := HQL.out; omega)), by have := Hfl.out; omega, by rw [← HE.out, downP, if_neg (by omega), HCH.out, if_pos HB3.out], HG4.out⟩
            case measure => simp [intOf]; omega
          | false =>
            have HB3 := qh hb3
            clear hb3
            go_wp2_with fail
            go_ret
            refine ⟨⟨_, rfl⟩, ?_, HG3.out⟩
            rw [← HE.out, downP, if_neg (by omega), HCH.out, if_neg (by rw [HB3.out]; simp)]
            exact HQ3.out
      · have t3 : decide (2 * (j : Int) + 1 + 1 < (n : Int)) = false := by simp; omega
        have HCH := qh (show childP ts' j n = 2 * j + 1 by unfold childP; rw [if_neg (fun h => h2 h.1)])
        have hm := m_less HQ.out.cell
        obtain ⟨vs, hown, hnd⟩ := HQ.out.own
        have hc := less_any base g n0 c (2 * j + 1) j vs ts' wr hown hnd HS.out (by omega) (by omega)
        rw [show ((2 * j + 1 : Nat) : Int) = 2 * (j : Int) + 1 from by omega] at hc
        have HC3 := qh hc
        clear hown hnd hc
        go_wp2_with fail
        refine HC3.out.mono ?_; rintro e w3 ⟨rfl, hb⟩
        have HQ3 := qh (HQ.out.up hb)
        have HG3 := qh (HG.out.below hb)
        clear HC3 hm HQ HG hb
        cases hb3 : befP (gTk ts' (2 * j + 1)) (gTk ts' j) with
        | true =>
          have HB3 := qh hb3
          have hm := m_swap HQ3.out.cell
          obtain ⟨vs, hown, hnd⟩ := HQ3.out.own
          have hc := swap_any base g n0 c j (2 * j + 1) vs ts' w3 hown hnd (by omega) (by omega)
          rw [show ((2 * j + 1 : Nat) : Int) = 2 * (j : Int) + 1 from by omega] at hc
          have HC4 := qh hc
          clear hown hnd hc hb3
          go_wp2_with fail
          refine HC4.out.mono ?_; rintro e w4 ⟨rfl, ⟨vs4, ho4, hn4⟩, hg4⟩
          have HQ4 := qh (show QH w4 base q g n0 c (swapP ts' j (2 * j + 1)) from ⟨hg4.blk HQ3.out.bq HQ3.out.ne, HQ3.out.ne, vs4, ho4, hn4⟩)
          have HG4 := qh (HG3.out.trans hg4)
          clear HC4 hm HQ3 HG3 ho4 hn4 hg4
          go_wp2_with fail
          go_roundw
          case rel => exact ⟨2 * j + 1, f2, swapP ts' j (2 * j + 1), by go_num, by omega, HQ4.out, HS.out.perm (swap_perm (by have := HQL.out; omega) (by have := HQL.out; omega)), by have := Hfl.out; omega, by rw [← HE.out, downP, if_neg (by omega), HCH.out, if_pos HB3.out], HG4.out⟩
          case measure => simp [intOf]; omega
        | false =>
          have HB3 := qh hb3
          clear hb3
          go_wp2_with fail
          go_ret
          refine ⟨⟨_, rfl⟩, ?_, HG3.out⟩
          rw [← HE.out, downP, if_neg (by omega), HCH.out, if_neg (by rw [HB3.out]; simp)]
          exact HQ3.out
    · have t1 : decide ((n : Int) ≤ 2 * (j : Int) + 1) = true := by simp; omega
      go_wp2_with fail
      go_ret
      refine ⟨⟨_, rfl⟩, ?_, HG.out⟩
      rw [← HE.out]
      cases f' with
      | zero => exact HQ.out
      | succ f2 => rw [downP, if_pos (by omega)]; exact HQ.out
end Go.Proofs.YtjjnbbkdjimcoaaGreat
