/- Walks: the program's and the reference's EvictCost. -/
import Derived.Test.YtkcflajhmekcaaaEvictListS
namespace Go.Proofs.Ytkcflajhmekcaaa
open Go.RowKit
attribute [local go_sem ↓] Go.wp_at_zero Go.wp_at_succ

/-- A row of integers that the call owns reads. -/
theorem own_rdI {w : World} {base : Nat} {t : TypeId} {A : Option Addr} {n c : Nat} {xs : List Int} (h : w.ownsRow base t 1 (.slice A n c) n (xs.map (Value.int .i64))) (hn : n ≤ 9223372036854775807) : RdI w w.heap.size A n xs := by
  have hl : xs.length = n := by have := h.1; simpa using this
  refine ⟨hl, hn, fun hp => ?_⟩
  obtain ⟨g, cap, hv, _, hlt⟩ := h.form hp
  have hA : A = some ⟨g, 0, none⟩ := by injection hv
  subst hA
  refine ⟨g, 0, rfl, hlt, fun j hj => ?_⟩
  have e1 := h.cells (g := g) rfl j (.int .i64 (xs[j]?.getD 0)) (by rw [List.getElem?_map, List.getElem?_eq_getElem (by omega)]; rfl)
  rwa [addr_add] at e1

theorem listG_at {g : Nat → Bool} {n j : Nat} (hj : j < (listG g n).length) : ∃ q : Nat, q < n ∧ g q = true ∧ (listG g n)[j]?.getD 0 = (q : Int) := by
  rw [List.getElem?_eq_getElem hj]
  have hm : (listG g n)[j] ∈ listG g n := List.getElem_mem hj
  generalize (listG g n)[j] = x at hm
  rw [listG, List.mem_map] at hm
  obtain ⟨q, h1, h2⟩ := hm
  rw [List.mem_filter, List.mem_range] at h1
  exact ⟨q, h1.1, h1.2, by simp [← h2]⟩

/-- The sum of the ranks of the first k in a list. -/
def costK (rk : List Int) (xs : List Int) : Nat → Int
  | 0 => 0
  | k + 1 => costK rk xs k + rk[(xs[k]?.getD 0).toNat]?.getD 0
theorem costK_bd {rk : List Int} (h : ∀ j : Nat, 0 ≤ rk[j]?.getD 0 ∧ rk[j]?.getD 0 ≤ 9) (xs : List Int) (k : Nat) : 0 ≤ costK rk xs k ∧ costK rk xs k ≤ 9 * k := by
  induction k with
  | zero => exact ⟨Int.le_refl _, Int.le_refl _⟩
  | succ k ih => have := h (xs[k]?.getD 0).toNat; rw [costK]; omega
/-- The cost, or -1. -/
def costP (room : List Int) (ts : List Tk) (rk : List Int) (t : Tk) (r : Int) : Int := match evP room ts rk t r with | none => -1 | some g => costK rk (listG g ts.length) (listG g ts.length).length
theorem evP_facts {room : List Int} {ts : List Tk} {rk : List Int} {t : Tk} {r : Int} {g : Nat → Bool} (h : evP room ts rk t r = some g) : evOk room ts rk t r = true ∧ goneP room ts rk t.2 r = some g := by
  rw [evP] at h
  split at h
  · rename_i h1; exact ⟨h1, h⟩
  · cases h
theorem own_len {w : World} {base : Nat} {t : TypeId} {A : Option Addr} {n c : Nat} {xs : List Int} (h : w.ownsRow base t 1 (.slice A n c) n (xs.map (Value.int .i64))) : xs.length = n := by have := h.1; simpa using this

set_option maxRecDepth 100000 in
set_option maxHeartbeats 1600000 in
theorem evictCostI_any (A1 A2 A3 A4 : Option Addr) (n1 c1 n2 c2 n3 c3 n4 c4 : Nat) (room rk : List Int) (ts : List Tk) (id : Int) (xs : List Int) (r : Int) (w : World) (h1 : RdI w w.heap.size A1 n1 room) (h2 : RdT w w.heap.size A2 n2 ts)
    (h3 : RdI w w.heap.size A3 n3 rk) (h4 : RdI w w.heap.size A4 n4 xs) (hc2 : n2 ≤ c2) (hc4 : n4 ≤ c4) (hz : n2 ≤ 1048576) :
    Calls Try.prog 17 #[.slice A1 n1 c1, .slice A2 n2 c2, .slice A3 n3 c3, .agg #[.int .i64 id, .slice A4 n4 c4], .int .i64 r] w fun e w' => e = .returned (.int .i64 (costP room ts rk (id, xs) r)) ∧ Below w.heap.size w w' := by
  have hl2 := Lib.hid h2.len
  have hl3 := Lib.hid h3.len
  have H1 := Lib.hid h1
  have H2 := Lib.hid h2
  have H3 := Lib.hid h3
  have H4 := Lib.hid h4
  clear h1 h2 h3 h4
  have B0 := Lib.hid (new_up w (.cells #[.int .i64 id, .slice A4 n4 c4] 26))
  have P0 := Lib.hid (Blk.new w 26 #[.int .i64 id, .slice A4 n4 c4])
  have x0 := P0.out.cell 0
  have x1 := P0.out.cell 1
  simp only [List.getElem?_toArray, List.getElem?_cons_zero, List.getElem?_cons_succ] at x0 x1
  have hcall := Lib.hid (evictListI_any A1 A2 A3 A4 n1 c1 n2 c2 n3 c3 n4 c4 room rk ts id xs r _ (H1.out.up B0.out) (H2.out.up B0.out) (H3.out.up B0.out) (H4.out.up B0.out) hc2 hc4 hz)
  go_enter Try.func17, Try.ntmps17
  go_wp2_with fail
  refine hcall.out.mono ?_; rintro e w2 ⟨hres, hb2⟩
  have B2 := Lib.hid (below_to B0.out hb2)
  clear hb2 x0 x1 hcall P0
  rcases hres with ⟨hg, rfl⟩ | ⟨g, A5, m5, c5, hg, rfl, hown⟩
  · have Hg := Lib.hid hg
    clear hg
    go_wp2_with fail
    go_ret
    exact ⟨ret_int (by rw [costP, Hg.out]), B2.out⟩
  · obtain ⟨hok, _⟩ := evP_facts hg
    obtain ⟨f1, f2, f3, f4, f5, f6, _, _⟩ := evOk_facts hok
    have F6 := Lib.hid f6
    have hlen := own_len hown
    have hm5 : m5 ≤ 13 := by have := listG_len g ts.length; omega
    have en : n3 = n2 := by have := hl2.out; have := hl3.out; omega
    have hn2 : n2 ≤ 13 := by have := hl2.out; omega
    have Hg := Lib.hid hg
    have Hlen := Lib.hid hlen
    have R5 := Lib.hid (own_rdI hown (by omega))
    clear hg hok f1 f2 f3 f4 f5 f6 hown hlen
    subst en
    have H32 := Lib.hid (H3.out.up B2.out)
    go_wp2_with fail
    go_loop [13, 29] (fun s i => ∃ k : Nat, i = .int .i64 k ∧ k ≤ m5 ∧ s = .int .i64 (costK rk (listG g ts.length) k)) (fun _ i => m5 - (intOf i).toNat)
    case atStart => exact ⟨0, rfl, Nat.zero_le _, rfl⟩
    case round =>
      obtain ⟨k, rfl, hk, rfl⟩ := hrel
      by_cases hlt : k < m5
      · obtain ⟨q, q1, _, q3⟩ := listG_at (g := g) (n := ts.length) (j := k) (by rw [Hlen.out]; exact hlt)
        obtain ⟨b, o, rfl, _, hc⟩ := R5.out.at_ hlt
        rw [q3] at hc
        obtain ⟨b', o', rfl, _, hc'⟩ := H32.out.at_ (show q < n3 by have := hl2.out; omega)
        have hs := Lib.hid (show costK rk (listG g ts.length) (k + 1) = costK rk (listG g ts.length) k + rk[q]?.getD 0 by rw [costK, q3, Int.toNat_natCast])
        have bd := costK_bd F6.out (listG g ts.length) k
        have bq := F6.out q
        have k1 : (0 : Int) ≤ (q : Int) := by omega
        have k2 : (q : Int) < (n3 : Int) := by have := hl2.out; omega
        clear q3 q1
        generalize costK rk (listG g ts.length) k = s at hs bd ⊢
        go_wp2_with fail
        go_round
        case rel => exact ⟨k + 1, by go_num, by omega, by rw [hs.out]⟩
        case measure => simp [intOf]; omega
      · obtain rfl : k = m5 := by omega
        go_wp2_with fail
        go_ret
        exact ⟨ret_int (by rw [costP, Hg.out]; show _ = costK rk (listG g ts.length) (listG g ts.length).length; rw [Hlen.out]), B2.out⟩

set_option maxRecDepth 100000 in
set_option maxHeartbeats 1600000 in
theorem evictCostS_any (A1 A2 A3 A4 : Option Addr) (n1 c1 n2 c2 n3 c3 n4 c4 : Nat) (room rk : List Int) (ts : List Tk) (id : Int) (xs : List Int) (r : Int) (w : World) (h1 : RdI w w.heap.size A1 n1 room) (h2 : RdT w w.heap.size A2 n2 ts)
    (h3 : RdI w w.heap.size A3 n3 rk) (h4 : RdI w w.heap.size A4 n4 xs) (hc2 : n2 ≤ c2) (hc4 : n4 ≤ c4) (hz : n2 ≤ 1048576) :
    Calls Try.prog 18 #[.slice A1 n1 c1, .slice A2 n2 c2, .slice A3 n3 c3, .agg #[.int .i64 id, .slice A4 n4 c4], .int .i64 r] w fun e w' => e = .returned (.int .i64 (costP room ts rk (id, xs) r)) ∧ Below w.heap.size w w' := by
  have hl2 := Lib.hid h2.len
  have hl3 := Lib.hid h3.len
  have H1 := Lib.hid h1
  have H2 := Lib.hid h2
  have H3 := Lib.hid h3
  have H4 := Lib.hid h4
  clear h1 h2 h3 h4
  have B0 := Lib.hid (new_up w (.cells #[.int .i64 id, .slice A4 n4 c4] 26))
  have P0 := Lib.hid (Blk.new w 26 #[.int .i64 id, .slice A4 n4 c4])
  have x0 := P0.out.cell 0
  have x1 := P0.out.cell 1
  simp only [List.getElem?_toArray, List.getElem?_cons_zero, List.getElem?_cons_succ] at x0 x1
  have hcall := Lib.hid (evictListS_any A1 A2 A3 A4 n1 c1 n2 c2 n3 c3 n4 c4 room rk ts id xs r _ (H1.out.up B0.out) (H2.out.up B0.out) (H3.out.up B0.out) (H4.out.up B0.out) hc2 hc4 hz)
  go_enter Try.func18, Try.ntmps18
  go_wp2_with fail
  refine hcall.out.mono ?_; rintro e w2 ⟨hres, hb2⟩
  have B2 := Lib.hid (below_to B0.out hb2)
  clear hb2 x0 x1 hcall P0
  rcases hres with ⟨hg, A5, c5, rfl⟩ | ⟨g, A5, m5, c5, hg, rfl, hown⟩
  · have Hg := Lib.hid hg
    clear hg
    go_wp2_with fail
    go_ret
    exact ⟨ret_int (by rw [costP, Hg.out]), B2.out⟩
  · obtain ⟨hok, _⟩ := evP_facts hg
    obtain ⟨f1, f2, f3, f4, f5, f6, _, _⟩ := evOk_facts hok
    have F6 := Lib.hid f6
    have hlen := own_len hown
    have hm5 : m5 ≤ 13 := by have := listG_len g ts.length; omega
    have en : n3 = n2 := by have := hl2.out; have := hl3.out; omega
    have hn2 : n2 ≤ 13 := by have := hl2.out; omega
    have Hg := Lib.hid hg
    have Hlen := Lib.hid hlen
    have R5 := Lib.hid (own_rdI hown (by omega))
    clear hg hok f1 f2 f3 f4 f5 f6 hown hlen
    subst en
    have H32 := Lib.hid (H3.out.up B2.out)
    go_wp2_with fail
    go_loop [13, 14] (fun s i => ∃ k : Nat, i = .int .i64 k ∧ k ≤ m5 ∧ s = .int .i64 (costK rk (listG g ts.length) k)) (fun _ i => m5 - (intOf i).toNat)
    case atStart => exact ⟨0, rfl, Nat.zero_le _, rfl⟩
    case round =>
      obtain ⟨k, rfl, hk, rfl⟩ := hrel
      by_cases hlt : k < m5
      · obtain ⟨q, q1, _, q3⟩ := listG_at (g := g) (n := ts.length) (j := k) (by rw [Hlen.out]; exact hlt)
        obtain ⟨b, o, rfl, _, hc⟩ := R5.out.at_ hlt
        rw [q3] at hc
        obtain ⟨b', o', rfl, _, hc'⟩ := H32.out.at_ (show q < n3 by have := hl2.out; omega)
        have hs := Lib.hid (show costK rk (listG g ts.length) (k + 1) = costK rk (listG g ts.length) k + rk[q]?.getD 0 by rw [costK, q3, Int.toNat_natCast])
        have bd := costK_bd F6.out (listG g ts.length) k
        have bq := F6.out q
        have k1 : (0 : Int) ≤ (q : Int) := by omega
        have k2 : (q : Int) < (n3 : Int) := by have := hl2.out; omega
        clear q3 q1
        generalize costK rk (listG g ts.length) k = s at hs bd ⊢
        go_wp2_with fail
        go_round
        case rel => exact ⟨k + 1, by go_num, by omega, by rw [hs.out]⟩
        case measure => simp [intOf]; omega
      · obtain rfl : k = m5 := by omega
        go_wp2_with fail
        go_ret
        exact ⟨ret_int (by rw [costP, Hg.out]; show _ = costK rk (listG g ts.length) (listG g ts.length).length; rw [Hlen.out]), B2.out⟩
end Go.Proofs.Ytkcflajhmekcaaa
