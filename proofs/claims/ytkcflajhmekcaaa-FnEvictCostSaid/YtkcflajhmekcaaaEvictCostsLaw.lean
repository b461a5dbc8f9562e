/- The walks of the law FnEvictCost. -/
import Derived.Test.YtkcflajhmekcaaaEvictLawPure
import Derived.Test.YtkcflajhmekcaaaEvictRankLaw
namespace Go.Proofs.Ytkcflajhmekcaaa
open Go Go.RowKit
attribute [local go_sem ↓] Go.wp_at_zero Go.wp_at_succ

set_option maxRecDepth 100000 in
set_option maxHeartbeats 3200000 in
theorem evictCost_walk (A : Option Addr) (n c : Nat) (w : World) (h : RdU w w.heap.size A n) (hc : n ≤ c) (hcm : c ≤ 9223372036854775807) :
    Calls Try.prog 9 #[.slice A n c] w fun e w' => e = .returned (.bool true) ∧ Below w.heap.size w w' := by
  by_cases k1 : 1048576 < n
  · go_enter Try.func9, Try.ntmps9
    go_wp2
    go_ret
    exact ⟨rfl, Below.refl _ _⟩
  go_enter Try.func9, Try.ntmps9
  go_wp2_with fail
  refine (drawEvictCost_any A n c w h hc hcm).mono ?_; rintro e w1 ⟨A1, A2, A3, A4, n2, n3, c2, c3, room, ts, rk, id, xs, r, rfl, hR, hc2, hn2, hn3, B1⟩
  have HR := Lib.hid hR
  have HB1 := Lib.hid B1
  have HL2 := Lib.hid hR.b.len
  have B2 := alloc_up w1 (.cells #[.int .i64 id, .slice A4 3 3] 26)
  have hk := Lib.hid (fun w' => box_two 26 w1 (.int .i64 id) (.slice A4 3 3) (w' := w'))
  have sz : (w1.alloc (.cells #[.int .i64 id, .slice A4 3 3] 26)).heap.size = w1.heap.size + 1 := World.size_alloc _ _
  clear hR B1
  obtain ⟨x0, x1⟩ := hk.out _ (Below.refl _ _)
  go_wp2_with fail
  generalize w1.alloc (.cells #[.int .i64 id, .slice A4 3 3] 26) = w2 at B2 hk sz x0 x1 ⊢
  rw [← sz] at hk
  have HR2 := Lib.hid (HR.out.up B2)
  have HB2 := Lib.hid (below_to HB1.out B2)
  clear sz B2
  have hz2 : n2 ≤ 1048576 := by omega
  refine (evictCostI_any A1 A2 A3 A4 3 3 n2 c2 n3 c3 3 3 room rk ts id xs r w2 HR2.out.a HR2.out.b HR2.out.c HR2.out.d hc2 (Nat.le_refl _) hz2).mono ?_; rintro e w3 ⟨rfl, d3⟩
  have D3 := Lib.hid d3
  have HR3 := Lib.hid (HR2.out.up d3)
  have HB3 := Lib.hid (below_to HB2.out d3)
  clear d3 x0 x1
  obtain ⟨x0, x1⟩ := hk.out w3 D3.out
  have hspec := Lib.hid (evictCostS_any A1 A2 A3 A4 3 3 n2 c2 n3 c3 3 3 room rk ts id xs r w3 HR3.out.a HR3.out.b HR3.out.c HR3.out.d hc2 (Nat.le_refl _) hz2)
  have hcost := Lib.hid (show costP room ts rk (id, xs) r = match evP room ts rk (id, xs) r with | none => -1 | some g => costK rk (listG g ts.length) (listG g ts.length).length from rfl)
  cases hev : evP room ts rk (id, xs) r with
  | none =>
    rw [hev] at hcost
    have hc1 : costP room ts rk (id, xs) r = -1 := hcost.out
    rw [hc1] at hspec ⊢
    clear hcost hev hc1
    go_wp2_with fail
    refine hspec.out.mono ?_; rintro e w4 ⟨rfl, d4⟩
    go_wp2
    go_ret
    exact ⟨rfl, below_to HB3.out d4⟩
  | some g =>
    rw [hev] at hcost
    have hc1 : costP room ts rk (id, xs) r = costK rk (listG g ts.length) (listG g ts.length).length := hcost.out
    obtain ⟨hok, _⟩ := evP_facts hev
    obtain ⟨_, _, _, _, f5, f6, _, _⟩ := evOk_facts hok
    have F5 := Lib.hid f5
    have F6 := Lib.hid f6
    have hbd := costK_bd f6 (listG g ts.length) (listG g ts.length).length
    have hll := listG_len g ts.length
    have hl2' := HL2.out
    rw [hc1] at hspec ⊢
    have Hev := Lib.hid hev
    clear hcost hev hc1 hok f5 f6
    obtain ⟨Q, hQ⟩ : ∃ Q, Q = costK rk (listG g ts.length) (listG g ts.length).length := ⟨_, rfl⟩
    rw [← hQ] at hspec hbd ⊢
    have HQ := Lib.hid hQ
    clear hQ
    obtain ⟨q0, q1⟩ := hbd
    go_wp2_with fail
    refine hspec.out.mono ?_; rintro e w4 ⟨rfl, d4⟩
    have HB4 := Lib.hid (below_to HB3.out d4)
    have D4 := Lib.hid (below_to D3.out d4)
    have HR4 := Lib.hid (HR3.out.up d4)
    clear d4 hspec x0 x1
    obtain ⟨x0, x1⟩ := hk.out w4 D4.out
    have hq0 : decide ((Q : Int) < 0) = false := by simp; omega
    go_wp2_with fail
    refine (evictListI_any A1 A2 A3 A4 3 3 n2 c2 n3 c3 3 3 room rk ts id xs r w4 HR4.out.a HR4.out.b HR4.out.c HR4.out.d hc2 (Nat.le_refl _) hz2).mono ?_; rintro e w5 ⟨hres, d5⟩
    have HB5 := Lib.hid (below_to HB4.out d5)
    have HR5 := Lib.hid (HR4.out.up d5)
    clear d5 x0 x1
    rcases hres with ⟨hg, _⟩ | ⟨g', A5, m5, c5, hg, rfl, hown⟩
    · rw [Hev.out] at hg; cases hg
    obtain rfl : g = g' := by rw [Hev.out] at hg; injection hg
    have hlen := own_len hown
    have hm5 : m5 ≤ 8 := by omega
    have R5 := Lib.hid (own_rdI hown (by omega))
    have Hlen := Lib.hid hlen
    have l3 := Lib.hid HR5.out.c.len
    clear hg hown hlen hll
    go_wp2_with fail
    go_loop [12, 13] (fun s i => ∃ k : Nat, i = .int .i64 k ∧ k ≤ m5 ∧ s = .int .i64 (costK rk (listG g ts.length) k)) (fun _ i => m5 - (intOf i).toNat)
    case atStart => exact ⟨0, rfl, Nat.zero_le _, rfl⟩
    case round =>
      obtain ⟨k, rfl, hk', rfl⟩ := hrel
      by_cases hlt : k < m5
      · obtain ⟨q, z1, _, z3⟩ := listG_at (g := g) (n := ts.length) (j := k) (by rw [Hlen.out]; exact hlt)
        obtain ⟨b, o, rfl, _, hcc⟩ := R5.out.at_ hlt
        rw [z3] at hcc
        have hqn : q < n3 := by have := l3.out; have := F5.out; omega
        obtain ⟨b', o', rfl, _, hcc'⟩ := HR5.out.c.at_ hqn
        have hs := Lib.hid (show costK rk (listG g ts.length) (k + 1) = costK rk (listG g ts.length) k + rk[q]?.getD 0 by rw [costK, z3, Int.toNat_natCast])
        have bd := costK_bd F6.out (listG g ts.length) k
        have bq := F6.out q
        have k1 : (0 : Int) ≤ (q : Int) := by omega
        have k2 : (q : Int) < (n3 : Int) := by omega
        clear z3 z1
        generalize costK rk (listG g ts.length) k = s at hs bd ⊢
        go_wp2_with fail
        go_round
        case rel => exact ⟨k + 1, by go_num, by omega, by rw [hs.out]⟩
        case measure => simp [intOf]; omega
      · obtain rfl : k = m5 := by omega
        have hfin : costK rk (listG g ts.length) k = Q := by rw [HQ.out, Hlen.out]
        rw [hfin]
        clear hfin
        go_wp2_with fail
        go_ret
        exact ⟨rfl, HB5.out⟩

end Go.Proofs.Ytkcflajhmekcaaa
