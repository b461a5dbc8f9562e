/- The walks of the laws FnEvictRank and FnEvictSame. -/
import Derived.Test.YtkcflajhmekcaaaDrawEvicts
import Derived.Test.YtkcflajhmekcaaaLawEq
namespace Go.Proofs.Ytkcflajhmekcaaa
open Go Go.RowKit

theorem evP_more {room : List Int} {ts : List Tk} {rk : List Int} {t : Tk} {r : Int} {g : Nat → Bool} (h : evP room ts rk t r = some g) (hr : ¬ r = 9) : evP room ts rk t (r + 1) = some g := by
  obtain ⟨h1, h2⟩ := evP_facts h
  obtain ⟨_, _, _, _, _, _, g1, g2⟩ := evOk_facts h1
  rw [evP, if_pos, goneP_more h2]
  have h3 : inR 0 9 (r + 1) = true := inR_iff.2 ⟨by omega, by omega⟩
  simp only [evOk, Bool.and_eq_true] at h1 ⊢
  exact ⟨h1.1, h3⟩

set_option maxRecDepth 100000 in
set_option maxHeartbeats 3200000 in
theorem evictRank_walk (A : Option Addr) (n c : Nat) (w : World) (h : RdU w w.heap.size A n) (hc : n ≤ c) (hcm : c ≤ 9223372036854775807) :
    Calls Try.prog 7 #[.slice A n c] w fun e w' => e = .returned (.bool true) ∧ Below w.heap.size w w' := by
  by_cases k1 : 1048576 < n
  · go_enter Try.func7, Try.ntmps7
    go_wp2
    go_ret
    exact ⟨rfl, Below.refl _ _⟩
  go_enter Try.func7, Try.ntmps7
  go_wp2_with fail
  refine (drawEvictList_any A n c w h hc hcm).mono ?_; rintro e w1 ⟨A1, A2, A3, A4, n2, n3, c2, c3, room, ts, rk, id, xs, r, rfl, hR, hc2, hn2, hn3, B1⟩
  have HR := Lib.hid hR
  have HB1 := Lib.hid B1
  have HL2 := Lib.hid hR.b.len
  have B2 := alloc_up w1 (.cells #[.int .i64 id, .slice A4 3 3] 26)
  have hk := Lib.hid (fun w' => box_two 26 w1 (.int .i64 id) (.slice A4 3 3) (w' := w'))
  have sz : (w1.alloc (.cells #[.int .i64 id, .slice A4 3 3] 26)).heap.size = w1.heap.size + 1 := World.size_alloc _ _
  clear hR B1
  obtain ⟨x0, x1⟩ := hk.out _ (Below.refl _ _)
  go_wp2_with fail
  generalize w1.alloc (.cells #[.int .i64 id, .slice A4 3 3] 26) = w2 at B2 hk sz x0 x1 ⊢
  rw [← sz] at hk
  have HR2 := Lib.hid (HR.out.up B2)
  have HB2 := Lib.hid (below_to HB1.out B2)
  clear sz B2
  have hz2 : n2 ≤ 1048576 := by omega
  refine (evictListI_any A1 A2 A3 A4 3 3 n2 c2 n3 c3 3 3 room rk ts id xs r w2 HR2.out.a HR2.out.b HR2.out.c HR2.out.d hc2 (Nat.le_refl _) hz2).mono ?_; rintro e w3 ⟨hres, d3⟩
  have D3 := Lib.hid d3
  have HR3 := Lib.hid (HR2.out.up d3)
  have HB3 := Lib.hid (below_to HB2.out d3)
  clear d3 x0 x1
  obtain ⟨x0, x1⟩ := hk.out w3 D3.out
  have hspec := Lib.hid (evictListS_any A1 A2 A3 A4 3 3 n2 c2 n3 c3 3 3 room rk ts id xs r w3 HR3.out.a HR3.out.b HR3.out.c HR3.out.d hc2 (Nat.le_refl _) hz2)
  rcases hres with ⟨hg, rfl⟩ | ⟨g, A5, m5, c5, hg, rfl, hown⟩
  · have Hg := Lib.hid hg
    clear hg
    go_wp2_with fail
    refine hspec.out.mono ?_; rintro e w4 ⟨hres, d4⟩
    have HB4 := Lib.hid (below_to HB3.out d4)
    clear d4 hspec
    rcases hres with ⟨_, A6, c6, rfl⟩ | ⟨g, _, _, _, hg, _, _⟩
    · go_wp2_with fail
      refine (sameInts_any none A6 0 0 c6 0 0 [] _ RdI.nil RdI.nil).mono ?_; rintro e w5 ⟨rfl, m6, rfl⟩
      go_wp2_with fail
      refine (sameInts_any none A6 0 0 c6 0 0 [] _ RdI.nil RdI.nil).mono ?_; rintro e w5 ⟨rfl, m7, rfl⟩
      go_wp2
      go_ret
      exact ⟨rfl, below_drewN HB4.out _⟩
    · rw [Hg.out] at hg; cases hg
  have hlen := own_len hown
  have hm5 : m5 ≤ 8 := by have := listG_len g ts.length; have := HL2.out; omega
  have R5' := Lib.hid (own_rdI hown (by omega))
  have Hlen := Lib.hid hlen
  have Hown := Lib.hid hown
  have Hg := Lib.hid hg
  obtain ⟨hok, hgo⟩ := evP_facts hg
  have Hok := Lib.hid hok
  have Hgo := Lib.hid hgo
  clear hg hlen hown hok hgo
  go_wp2_with fail
  refine hspec.out.mono ?_; rintro e w4 ⟨hres, d4⟩
  have HB4 := Lib.hid (below_to HB3.out d4)
  have D4 := Lib.hid (below_to D3.out d4)
  have HR4 := Lib.hid (HR3.out.up d4)
  have R5 := Lib.hid (R5'.out.up d4)
  clear d4 hspec x0 x1 R5'
  rcases hres with ⟨hg, _⟩ | ⟨g', A6, m6, c6, hg, rfl, hown⟩
  · rw [Hg.out] at hg; cases hg
  obtain rfl : g = g' := by rw [Hg.out] at hg; injection hg
  have hlen := own_len hown
  obtain rfl : m5 = m6 := by have := Hlen.out; omega
  have R6 := Lib.hid (own_rdI hown (by omega))
  clear hg hlen hown
  go_wp2_with fail
  refine (sameInts_any A5 A6 m5 c5 c6 _ _ _ _ R5.out R6.out).mono ?_; rintro e w5 ⟨rfl, m7, rfl⟩
  have HB5 := Lib.hid (below_drewN HB4.out m7)
  have D5 := Lib.hid (below_drewN D4.out m7)
  have HR5 := Lib.hid (HR4.out.up (drew_below w4 m7))
  have R55 := Lib.hid (R5.out.up (drew_below w4 m7))
  have R65 := Lib.hid (R6.out.up (drew_below w4 m7))
  by_cases h9 : r = 9
  · have e9 : ((r : Int) == 9) = true := by simp [h9]
    go_wp2_with fail
    refine (sameInts_any A5 A6 m5 c5 c6 _ _ _ _ R55.out R65.out).mono ?_; rintro e w6 ⟨rfl, m8, rfl⟩
    go_wp2
    go_ret
    exact ⟨rfl, below_drewN HB4.out _⟩
  have e9 : ((r : Int) == 9) = false := by simp [h9]
  obtain ⟨_, _, _, _, _, _, g1, g2⟩ := evOk_facts Hok.out
  have hw : IntKind.i64.wrap (r + 1) = r + 1 := wr64 (by omega) (by omega)
  have hmore := Lib.hid (show evP room ts rk (id, xs) (r + 1) = some g from evP_more Hg.out h9)
  obtain ⟨x0, x1⟩ := hk.out _ D5.out
  go_wp2_with fail
  refine (evictListI_any A1 A2 A3 A4 3 3 n2 c2 n3 c3 3 3 room rk ts id xs (r + 1) _ HR5.out.a HR5.out.b HR5.out.c HR5.out.d hc2 (Nat.le_refl _) hz2).mono ?_; rintro e w6 ⟨hres, d6⟩
  have HB6 := Lib.hid (below_to HB5.out d6)
  clear hw
  rcases hres with ⟨hg, _⟩ | ⟨g', A7, m9, c7, hg, rfl, hown⟩
  · rw [hmore.out] at hg; cases hg
  clear hg hown
  go_wp2
  go_ret
  exact ⟨rfl, HB6.out⟩

set_option maxRecDepth 100000 in
set_option maxHeartbeats 3200000 in
theorem evictSame_walk (A : Option Addr) (n c : Nat) (w : World) (h : RdU w w.heap.size A n) (hc : n ≤ c) (hcm : c ≤ 9223372036854775807) :
    Calls Try.prog 8 #[.slice A n c] w fun e w' => e = .returned (.bool true) ∧ Below w.heap.size w w' := by
  by_cases k1 : 1048576 < n
  · go_enter Try.func8, Try.ntmps8
    go_wp2
    go_ret
    exact ⟨rfl, Below.refl _ _⟩
  go_enter Try.func8, Try.ntmps8
  go_wp2_with fail
  refine (drawEvictList_any A n c w h hc hcm).mono ?_; rintro e w1 ⟨A1, A2, A3, A4, n2, n3, c2, c3, room, ts, rk, id, xs, r, rfl, hR, hc2, hn2, hn3, B1⟩
  have HR := Lib.hid hR
  have HB1 := Lib.hid B1
  have HL2 := Lib.hid hR.b.len
  have B2 := alloc_up w1 (.cells #[.int .i64 id, .slice A4 3 3] 26)
  have hk := Lib.hid (fun w' => box_two 26 w1 (.int .i64 id) (.slice A4 3 3) (w' := w'))
  have sz : (w1.alloc (.cells #[.int .i64 id, .slice A4 3 3] 26)).heap.size = w1.heap.size + 1 := World.size_alloc _ _
  clear hR B1
  obtain ⟨x0, x1⟩ := hk.out _ (Below.refl _ _)
  go_wp2_with fail
  generalize w1.alloc (.cells #[.int .i64 id, .slice A4 3 3] 26) = w2 at B2 hk sz x0 x1 ⊢
  rw [← sz] at hk
  have HR2 := Lib.hid (HR.out.up B2)
  have HB2 := Lib.hid (below_to HB1.out B2)
  clear sz B2
  have hz2 : n2 ≤ 1048576 := by omega
  refine (evictListI_any A1 A2 A3 A4 3 3 n2 c2 n3 c3 3 3 room rk ts id xs r w2 HR2.out.a HR2.out.b HR2.out.c HR2.out.d hc2 (Nat.le_refl _) hz2).mono ?_; rintro e w3 ⟨hres, d3⟩
  have D3 := Lib.hid d3
  have HR3 := Lib.hid (HR2.out.up d3)
  have HB3 := Lib.hid (below_to HB2.out d3)
  clear d3 x0 x1
  obtain ⟨x0, x1⟩ := hk.out w3 D3.out
  have hspec := Lib.hid (evictListS_any A1 A2 A3 A4 3 3 n2 c2 n3 c3 3 3 room rk ts id xs r w3 HR3.out.a HR3.out.b HR3.out.c HR3.out.d hc2 (Nat.le_refl _) hz2)
  rcases hres with ⟨hg, rfl⟩ | ⟨g, A5, m5, c5, hg, rfl, hown⟩
  · have Hg := Lib.hid hg
    clear hg
    go_wp2_with fail
    refine hspec.out.mono ?_; rintro e w4 ⟨hres, d4⟩
    have HB4 := Lib.hid (below_to HB3.out d4)
    clear d4 hspec
    rcases hres with ⟨_, A6, c6, rfl⟩ | ⟨g, _, _, _, hg, _, _⟩
    · go_wp2_with fail
      refine (sameInts_any none A6 0 0 c6 0 0 [] _ RdI.nil RdI.nil).mono ?_; rintro e w5 ⟨rfl, m6, rfl⟩
      go_wp2_with fail
      refine (sameInts_any none A6 0 0 c6 0 0 [] _ RdI.nil RdI.nil).mono ?_; rintro e w5 ⟨rfl, m7, rfl⟩
      go_wp2
      go_ret
      exact ⟨rfl, below_drewN HB4.out _⟩
    · rw [Hg.out] at hg; cases hg
  have hlen := own_len hown
  have hm5 : m5 ≤ 8 := by have := listG_len g ts.length; have := HL2.out; omega
  have R5' := Lib.hid (own_rdI hown (by omega))
  have Hlen := Lib.hid hlen
  have Hown := Lib.hid hown
  have Hg := Lib.hid hg
  obtain ⟨hok, hgo⟩ := evP_facts hg
  have Hok := Lib.hid hok
  have Hgo := Lib.hid hgo
  clear hg hlen hown hok hgo
  go_wp2_with fail
  refine hspec.out.mono ?_; rintro e w4 ⟨hres, d4⟩
  have HB4 := Lib.hid (below_to HB3.out d4)
  have D4 := Lib.hid (below_to D3.out d4)
  have HR4 := Lib.hid (HR3.out.up d4)
  have R5 := Lib.hid (R5'.out.up d4)
  clear d4 hspec x0 x1 R5'
  rcases hres with ⟨hg, _⟩ | ⟨g', A6, m6, c6, hg, rfl, hown⟩
  · rw [Hg.out] at hg; cases hg
  obtain rfl : g = g' := by rw [Hg.out] at hg; injection hg
  have hlen := own_len hown
  obtain rfl : m5 = m6 := by have := Hlen.out; omega
  have R6 := Lib.hid (own_rdI hown (by omega))
  clear hg hlen hown
  go_wp2_with fail
  refine (sameInts_any A5 A6 m5 c5 c6 _ _ _ _ R5.out R6.out).mono ?_; rintro e w5 ⟨rfl, m7, rfl⟩
  have HB5 := Lib.hid (below_drewN HB4.out m7)
  have D5 := Lib.hid (below_drewN D4.out m7)
  have HR5 := Lib.hid (HR4.out.up (drew_below w4 m7))
  have R55 := Lib.hid (R5.out.up (drew_below w4 m7))
  have R65 := Lib.hid (R6.out.up (drew_below w4 m7))
  by_cases h9 : r = 9
  · have e9 : ((r : Int) == 9) = true := by simp [h9]
    go_wp2_with fail
    refine (sameInts_any A5 A6 m5 c5 c6 _ _ _ _ R55.out R65.out).mono ?_; rintro e w6 ⟨rfl, m8, rfl⟩
    go_wp2
    go_ret
    exact ⟨rfl, below_drewN HB4.out _⟩
  have e9 : ((r : Int) == 9) = false := by simp [h9]
  obtain ⟨_, _, _, _, _, _, g1, g2⟩ := evOk_facts Hok.out
  have hw : IntKind.i64.wrap (r + 1) = r + 1 := wr64 (by omega) (by omega)
  have hmore := Lib.hid (show evP room ts rk (id, xs) (r + 1) = some g from evP_more Hg.out h9)
  obtain ⟨x0, x1⟩ := hk.out _ D5.out
  go_wp2_with fail
  refine (evictListI_any A1 A2 A3 A4 3 3 n2 c2 n3 c3 3 3 room rk ts id xs (r + 1) _ HR5.out.a HR5.out.b HR5.out.c HR5.out.d hc2 (Nat.le_refl _) hz2).mono ?_; rintro e w6 ⟨hres, d6⟩
  have HB6 := Lib.hid (below_to HB5.out d6)
  clear hw
  rcases hres with ⟨hg, _⟩ | ⟨g', A7, m9, c7, hg, rfl, hown⟩
  · rw [hmore.out] at hg; cases hg
  obtain rfl : g = g' := by rw [hmore.out] at hg; injection hg
  have hlen := own_len hown
  obtain rfl : m5 = m9 := by have := Hlen.out; omega
  have R7 := Lib.hid (own_rdI hown (by omega))
  have R8 := Lib.hid (R55.out.up d6)
  clear hg hown hlen d6 x0 x1
  go_wp2_with fail
  refine (sameInts_any A7 A5 m5 c7 c5 _ _ _ _ R7.out R8.out).mono ?_; rintro e w7 ⟨rfl, m8, rfl⟩
  go_wp2
  go_ret
  exact ⟨rfl, below_drewN HB6.out m8⟩

end Go.Proofs.Ytkcflajhmekcaaa
