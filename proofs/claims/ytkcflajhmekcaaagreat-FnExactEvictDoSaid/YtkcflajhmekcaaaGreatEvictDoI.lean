/- Walk: the program's EvictDo. -/
import Derived.Test.YtkcflajhmekcaaaGreatEvictCost
import Derived.Test.YtkcflajhmekcaaaGreatOwnTs
namespace Go.Proofs.YtkcflajhmekcaaaGreat
open Go Go.RowKit
attribute [local go_sem ↓] Go.wp_at_zero Go.wp_at_succ

theorem own_low {w : World} {base base' : Nat} {e : TypeId} {size : Nat} {v : Value} {n : Nat} {xs : List Value} (h : w.ownsRow base' e size v n xs) (hb : base ≤ base') : w.ownsRow base e size v n xs :=
  ⟨h.1, h.2.imp (fun h => h) (fun ⟨g, cap, cur, a, b, c⟩ => ⟨g, cap, cur, a, by omega, c⟩)⟩
theorem evAny {g : Nat → Bool} {n i : Nat} (hi : i < n) : (listG g n).any (fun x => (i : Int) == x) = g i := by
  rw [Bool.eq_iff_iff, List.any_eq_true]
  constructor
  · rintro ⟨x, hx, hxi⟩
    rw [listG, List.mem_map] at hx
    obtain ⟨j, hj, rfl⟩ := hx
    rw [List.mem_filter] at hj
    have : j = i := by have h' : (i : Int) = (j : Int) := by simpa using hxi
                       omega
    rw [← this]; exact hj.2
  · intro h
    exact ⟨(i : Int), by rw [listG, List.mem_map]; exact ⟨i, by rw [List.mem_filter, List.mem_range]; exact ⟨hi, h⟩, rfl⟩, by simp⟩

set_option maxRecDepth 100000 in
set_option maxHeartbeats 3200000 in
theorem evictDoI_any (A1 A2 A3 A4 : Option Addr) (n1 c1 n2 c2 n3 c3 n4 c4 : Nat) (room rk : List Int) (ts : List Tk) (id : Int) (xs : List Int) (r : Int) (w : World) (h1 : RdI w w.heap.size A1 n1 room) (h2 : RdT w w.heap.size A2 n2 ts)
    (h3 : RdI w w.heap.size A3 n3 rk) (h4 : RdI w w.heap.size A4 n4 xs) (hc2 : n2 ≤ c2) (hc4 : n4 ≤ c4) (hz : n2 ≤ 1048576) :
    Calls Tryz.prog 21 #[.slice A1 n1 c1, .slice A2 n2 c2, .slice A3 n3 c3, .agg #[.int .i64 id, .slice A4 n4 c4], .int .i64 r] w fun e w' =>
      ((evP room ts rk (id, xs) r = none ∧ e = .returned (.tuple #[.slice none 0 0, .bool false])) ∨
       ∃ g A m c, evP room ts rk (id, xs) r = some g ∧ e = .returned (.tuple #[.slice A m c, .bool true]) ∧ OwnTs w' w.heap.size (.slice A m c) m (keptP ts g ts.length ++ [(id, xs)])) ∧ Below w.heap.size w w' := by
  obtain ⟨i0, hi0, hz0, hz1, hz2⟩ := info_parts task_info
  have hl2 := Lib.hid h2.len
  have hl4 := Lib.hid h4.len
  have H1 := Lib.hid h1
  have H2 := Lib.hid h2
  have H3 := Lib.hid h3
  have H4 := Lib.hid h4
  clear h1 h2 h3 h4
  have B0 := Lib.hid (alloc_up w (.cells #[.int .i64 id, .slice A4 n4 c4] 33))
  have P0 := Lib.hid (Blk.new w 33 #[.int .i64 id, .slice A4 n4 c4])
  have x0 := P0.out.cell 0
  have x1 := P0.out.cell 1
  simp only [List.getElem?_toArray, List.getElem?_cons_zero, List.getElem?_cons_succ] at x0 x1
  have hcall := Lib.hid (evictListI_any A1 A2 A3 A4 n1 c1 n2 c2 n3 c3 n4 c4 room rk ts id xs r _ (H1.out.up B0.out) (H2.out.up B0.out) (H3.out.up B0.out) (H4.out.up B0.out) hc2 hc4 hz)
  go_enter Tryz.func21, Tryz.ntmps21
  go_wp2_with fail
  refine hcall.out.mono ?_; rintro e w2 ⟨hres, hb2⟩
  have B2 := Lib.hid (upTo' B0.out hb2)
  have P2 := Lib.hid (P0.out.below hb2 P0.out.lt)
  clear hb2 x0 x1 hcall P0
  rcases hres with ⟨hg, rfl⟩ | ⟨g, A5, m5, c5, hg, rfl, hown⟩
  · have Hg := Lib.hid hg
    clear hg
    go_wp2_with fail
    go_ret2
    exact ⟨.inl ⟨Hg.out, rfl⟩, B2.out⟩
  · obtain ⟨hok, _⟩ := evP_facts hg
    obtain ⟨f1, f2, f3, f4, f5, f6, _, _⟩ := evOk_facts hok
    have F3 := Lib.hid f3
    have hn4 : n4 = 3 := by have e3 : xs.length = 3 := vecOk_len f4; have := hl4.out; omega
    have hn2 : n2 ≤ 13 := by have := hl2.out; omega
    have hlen := own_len hown
    have hm5 : m5 ≤ 13 := by have := listG_len g ts.length; omega
    have R5 := Lib.hid (own_rdI hown (by omega))
    have Hg := Lib.hid hg
    clear hg hok f1 f2 f3 f4 f5 f6 hown hlen
    subst hn4
    have H22 := Lib.hid (H2.out.up B2.out)
    have H42 := Lib.hid (H4.out.up B2.out)
    have hw2 : w.heap.size ≤ w2.heap.size := B2.out.size
    have hwx : w.heap.size < w2.heap.size := P2.out.lt
    have Ow0 := Lib.hid (show (w2.alloc (.cells #[] 33)).ownsRow w2.heap.size 33 2 (.slice (some ⟨w2.heap.size, 0, none⟩) 0 0) 0 [] from World.ownsRow_made w2 #[] 0 (Nat.le_refl _) (by unfold maxLen; omega) rfl)
    have Bw0 := Lib.hid (alloc_up w2 (.cells #[] 33))
    obtain ⟨v0, hv0⟩ : ∃ v0, v0 = w2 := ⟨_, rfl⟩
    rw [← hv0] at Ow0 Bw0
    subst hv0
    go_wp2_with fail
    go_loopw [14, 31] (fun v i wr => ∃ (k : Nat) (A0 : Option Addr) (m0 c0 : Nat) (vs : List Value) (nd : Nat → Value), i = .int .i64 k ∧ k ≤ n2 ∧ v = .slice A0 m0 c0 ∧ Below v0.heap.size v0 wr ∧ m0 ≤ k ∧
      wr.ownsRow v0.heap.size 33 2 (.slice A0 m0 c0) m0 vs ∧ NdTs wr v0.heap.size m0 vs nd (keptP ts g k)) (fun _ i _ => n2 - (intOf i).toNat)
    case atStart => exact ⟨0, _, _, _, [], _, rfl, Nat.zero_le _, rfl, Bw0.out, Nat.le_refl _, Ow0.out, NdTs.nil⟩
    case round =>
      clear Ow0 Bw0
      obtain ⟨k, A0, m0, c0, vs, nd, rfl, hk, rfl, hbel, hmk, hown, hnd⟩ := hrel
      by_cases hlt : k < n2
      · obtain ⟨b1, o1, A3', m3, c3', rfl, lb1, hc1, hc3, hle3, hr3⟩ := (H22.out.below hbel).at_ hlt
        have em : m3 = 3 := by rw [← hr3.len]; exact (load_ok F3.out).1 k (by have := hl2.out; omega)
        subst em
        have lzr := hbel.size
        have hal := alloc_up wr (.cells #[.int .i64 (ts[k]?.getD (0, [])).1, .slice A3' 3 c3'] 33)
        have Hbel := Lib.hid (hbel.alloc lzr (.cells #[.int .i64 (ts[k]?.getD (0, [])).1, .slice A3' 3 c3'] 33))
        have Hown := Lib.hid (own_keep hown (w' := wr.alloc (.cells #[.int .i64 (ts[k]?.getD (0, [])).1, .slice A3' 3 c3'] 33)) (fun b hb => Below.heap_alloc _ _ _ (hown.lt b hb).2))
        have Hnd := Lib.hid (hnd.keep (w' := wr.alloc (.cells #[.int .i64 (ts[k]?.getD (0, [])).1, .slice A3' 3 c3'] 33)) (fun b _ hlt => Below.heap_alloc _ _ _ hlt))
        have Hr3 := Lib.hid ((hr3.more lzr).up hal)
        have Px := Lib.hid (Blk.new wr 33 #[.int .i64 (ts[k]?.getD (0, [])).1, .slice A3' 3 c3'])
        have R5r := Lib.hid (R5.out.below Hbel.out)
        have hgk := evAny (g := g) (n := ts.length) (i := k) (by have := hl2.out; omega)
        have lz : v0.heap.size ≤ (wr.alloc (.cells #[.int .i64 (ts[k]?.getD (0, [])).1, .slice A3' 3 c3'] 33)).heap.size := by rw [World.size_alloc]; omega
        have hcont := Lib.hid (containsI_any A5 m5 c5 _ (listG g ts.length) (k : Int) _ R5r.out)
        rw [hgk] at hcont
        have kk1 : (0 : Int) ≤ (k : Int) := by omega
        have kk2 : (k : Int) < (n2 : Int) := by omega
        clear hgk hal hbel hown hnd hr3
        go_wp2_with fail
        refine hcont.out.mono ?_; rintro e w3 ⟨rfl, rfl⟩
        clear hcont hc1 hc3
        generalize hWW : wr.alloc (.cells #[.int .i64 (ts[k]?.getD (0, [])).1, .slice A3' 3 c3'] 33) = W3 at Hbel Hown Hnd Hr3 Px R5r lz ⊢
        clear hWW
        cases hgk : g k with
        | true =>
          have Hgk := Lib.hid hgk
          clear hgk
          go_wp2_with fail
          go_roundw
          case measure => simp [intOf]; omega
          case rel => exact ⟨k + 1, A0, m0, c0, vs, nd, by go_num, by omega, rfl, Hbel.out, by omega, Hown.out, by rw [keptP, if_pos Hgk.out]; exact Hnd.out⟩
        | false =>
          have Hgk := Lib.hid hgk
          clear hgk
          have p0 : W3.cell? ⟨wr.heap.size, 0, none⟩ = some (.int .i64 (ts[k]?.getD (0, [])).1) := Px.out.cell 0
          have p1 : W3.cell? ⟨wr.heap.size, 1, none⟩ = some (.slice A3' 3 c3') := Px.out.cell 1
          go_wp2_with fail
          refine (copyOf_any A3' 3 c3' (ts[k]?.getD (0, [])).1 (ts[k]?.getD (0, [])).2 W3 Hr3.out (by omega)).mono ?_; rintro e w4 ⟨A4', c4', rfl, hx4, hb4⟩
          have Ho4 := Lib.hid (own_keep Hown.out (fun b hb => hb4.block b (Hown.out.lt b hb).2))
          have Hn4 := Lib.hid (Hnd.out.keep (w' := w4) (fun b _ hlt => hb4.block b hlt))
          have sz4 := hb4.size
          have Hal4 := Lib.hid (alloc_up w4 (.cells #[.int .i64 (ts[k]?.getD (0, [])).1, .slice A4' 3 c4'] 33))
          have Ho5 := Lib.hid (own_keep Ho4.out (w' := w4.alloc (.cells #[.int .i64 (ts[k]?.getD (0, [])).1, .slice A4' 3 c4'] 33)) (fun b hb => Below.heap_alloc _ _ _ (Ho4.out.lt b hb).2))
          have Hx5 := Lib.hid (own_keep hx4 (w' := w4.alloc (.cells #[.int .i64 (ts[k]?.getD (0, [])).1, .slice A4' 3 c4'] 33)) (fun b hb => Below.heap_alloc _ _ _ (hx4.lt b hb).2))
          have Hn5 := Lib.hid ((Hn4.out.keep (w' := w4.alloc (.cells #[.int .i64 (ts[k]?.getD (0, [])).1, .slice A4' 3 c4'] 33)) (fun b _ hlt => Below.heap_alloc _ _ _ hlt)).snoc (w0 := W3) (id := (ts[k]?.getD (0, [])).1) Ho4.out.1 Hnd.out.old Hx5.out lz)
          have Hs5 := Lib.hid (own_src (own_built (w := w4) (base := 0) 33 (.int .i64 (ts[k]?.getD (0, [])).1) (.slice A4' 3 c4') (by omega)))
          have lz5 : v0.heap.size ≤ (w4.alloc (.cells #[.int .i64 (ts[k]?.getD (0, [])).1, .slice A4' 3 c4'] 33)).heap.size := by rw [World.size_alloc]; omega
          have Hb5 := Lib.hid (((Hbel.out.trans (hb4.mono lz))).alloc (by omega) (.cells #[.int .i64 (ts[k]?.getD (0, [])).1, .slice A4' 3 c4'] 33))
          clear hx4 hb4
          go_wp2_with (at_builtin; refine wpList_append_src _ rfl _ _ 31 rfl v0.heap.size 33 i0 _ 2 32 Tryz.underlying31 hi0 hz0 hz1 hz2 rfl (by omega) (.slice A0 m0 c0) m0 vs rfl Ho5.out (some ⟨w4.heap.size, 0, none⟩) 1 1 [.int .i64 (ts[k]?.getD (0, [])).1, .slice A4' 3 c4'] rfl Hs5.out (by simp [Value.oneCell']) (by unfold maxLen; omega) (by omega) lz5 ?_; intro v' w6 hown6 hgrow6 hat6)
          have Hn6 := Lib.hid (Hn5.out.grown Ho5.out hgrow6)
          have Hb6 := Lib.hid (Hb5.out.grown hgrow6 lz5 (fun j e => (Ho5.out.lt j e).1))
          obtain ⟨A6, c6, rfl⟩ := own_shape hown6
          have Ho6 := Lib.hid hown6
          clear hown6 hgrow6 hat6 Ho4 Hn4 Hal4 Ho5 Hx5 Hn5 Hs5 Hb5
          clear p0 p1
          go_wp2_with fail
          go_roundw
          case measure => simp [intOf]; omega
          case rel => exact ⟨k + 1, A6, m0 + 1, c6, _, _, by go_num, by omega, rfl, Hb6.out, by omega, Ho6.out, by rw [keptP, if_neg (by rw [Hgk.out]; simp)]; exact Hn6.out⟩
      · obtain rfl : k = n2 := by omega
        have Hbel := Lib.hid hbel
        have Hown := Lib.hid hown
        have Hnd := Lib.hid hnd
        have Pr := Lib.hid (P2.out.below hbel hwx)
        have lz := hbel.size
        have Hr4 := Lib.hid ((H42.out.below hbel).more lz)
        have p0 : wr.cell? ⟨w.heap.size, 0, none⟩ = some (.int .i64 id) := Pr.out.cell 0
        have p1 : wr.cell? ⟨w.heap.size, 1, none⟩ = some (.slice A4 3 c4) := Pr.out.cell 1
        clear hbel hown hnd
        go_wp2_with fail
        refine (copyOf_any A4 3 c4 id xs wr Hr4.out (by omega)).mono ?_; rintro e w4 ⟨A4', c4', rfl, hx4, hb4⟩
        have Ho4 := Lib.hid (own_keep Hown.out (fun b hb => hb4.block b (Hown.out.lt b hb).2))
        have Hn4 := Lib.hid (Hnd.out.keep (w' := w4) (fun b _ hlt => hb4.block b hlt))
        have sz4 := hb4.size
        have Hal4 := Lib.hid (alloc_up w4 (.cells #[.int .i64 id, .slice A4' 3 c4'] 33))
        have Ho5 := Lib.hid (own_keep Ho4.out (w' := w4.alloc (.cells #[.int .i64 id, .slice A4' 3 c4'] 33)) (fun b hb => Below.heap_alloc _ _ _ (Ho4.out.lt b hb).2))
        have Hx5 := Lib.hid (own_keep hx4 (w' := w4.alloc (.cells #[.int .i64 id, .slice A4' 3 c4'] 33)) (fun b hb => Below.heap_alloc _ _ _ (hx4.lt b hb).2))
        have Hn5 := Lib.hid ((Hn4.out.keep (w' := w4.alloc (.cells #[.int .i64 id, .slice A4' 3 c4'] 33)) (fun b _ hlt => Below.heap_alloc _ _ _ hlt)).snoc (w0 := wr) (id := id) Ho4.out.1 Hnd.out.old Hx5.out lz)
        have Hs5 := Lib.hid (own_src (own_built (w := w4) (base := 0) 33 (.int .i64 id) (.slice A4' 3 c4') (by omega)))
        have lz5 : v0.heap.size ≤ (w4.alloc (.cells #[.int .i64 id, .slice A4' 3 c4'] 33)).heap.size := by rw [World.size_alloc]; omega
        have Hb5 := Lib.hid (((Hbel.out.trans (hb4.mono lz))).alloc (by omega) (.cells #[.int .i64 id, .slice A4' 3 c4'] 33))
        clear hx4 hb4
        go_wp2_with (at_builtin; refine wpList_append_src _ rfl _ _ 31 rfl v0.heap.size 33 i0 _ 2 32 Tryz.underlying31 hi0 hz0 hz1 hz2 rfl (by omega) (.slice A0 m0 c0) m0 vs rfl Ho5.out (some ⟨w4.heap.size, 0, none⟩) 1 1 [.int .i64 id, .slice A4' 3 c4'] rfl Hs5.out (by simp [Value.oneCell']) (by unfold maxLen; omega) (by omega) lz5 ?_; intro v' w6 hown6 hgrow6 hat6)
        have Hn6 := Lib.hid (Hn5.out.grown Ho5.out hgrow6)
        have Hb6 := Lib.hid (Hb5.out.grown hgrow6 lz5 (fun j e => (Ho5.out.lt j e).1))
        obtain ⟨A6, c6, rfl⟩ := own_shape hown6
        have Ho6 := Lib.hid hown6
        clear hown6 hgrow6 hat6 Ho4 Hn4 Hal4 Ho5 Hx5 Hn5 Hs5 Hb5
        clear p0 p1
        go_wp2_with fail
        go_ret2
        refine ⟨.inr ⟨g, A6, m0 + 1, c6, Hg.out, rfl, ?_⟩, B2.out.trans (Hb6.out.mono hw2)⟩
        have hk := Hn6.out
        rw [← hl2.out] at hk
        refine ⟨_, _, own_low Ho6.out hw2, hk.1, fun j hj => ?_, hk.2.2⟩
        obtain ⟨q1, q2, A', m', c', q3, q4⟩ := hk.2.1 j hj
        exact ⟨q1, q2, A', m', c', q3, own_low q4 hw2⟩
end Go.Proofs.YtkcflajhmekcaaaGreat
