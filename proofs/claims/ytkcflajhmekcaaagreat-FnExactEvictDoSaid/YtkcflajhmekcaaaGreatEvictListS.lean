/- Walks: the reference's EvictList. -/
import Derived.Test.YtkcflajhmekcaaaGreatEvictList
namespace Go.Proofs.YtkcflajhmekcaaaGreat
open Go.RowKit
attribute [local go_sem ↓] Go.wp_at_zero Go.wp_at_succ

theorem listG_succ (g : Nat → Bool) (k : Nat) : listG g (k + 1) = listG g k ++ if g k = true then [(k : Int)] else [] := by
  rw [listG, List.range_succ, List.filter_append, List.map_append]
  cases h : g k <;> simp [h, listG]
theorem listG_len (g : Nat → Bool) (n : Nat) : (listG g n).length ≤ n := by
  rw [listG, List.length_map]
  exact Nat.le_trans (List.length_filter_le _ _) (by simp)

set_option maxRecDepth 100000 in
set_option maxHeartbeats 1600000 in
theorem evictListS_any (A1 A2 A3 A4 : Option Addr) (n1 c1 n2 c2 n3 c3 n4 c4 : Nat) (room rk : List Int) (ts : List Tk) (id : Int) (xs : List Int) (r : Int) (w : World) (h1 : RdI w w.heap.size A1 n1 room) (h2 : RdT w w.heap.size A2 n2 ts)
    (h3 : RdI w w.heap.size A3 n3 rk) (h4 : RdI w w.heap.size A4 n4 xs) (hc2 : n2 ≤ c2) (hc4 : n4 ≤ c4) (hz : n2 ≤ 1048576) :
    Calls Tryz.prog 8 #[.slice A1 n1 c1, .slice A2 n2 c2, .slice A3 n3 c3, .agg #[.int .i64 id, .slice A4 n4 c4], .int .i64 r] w fun e w' =>
      ((evP room ts rk (id, xs) r = none ∧ ∃ A c, e = .returned (.tuple #[.slice A 0 c, .bool false])) ∨
       ∃ g A m c, evP room ts rk (id, xs) r = some g ∧ e = .returned (.tuple #[.slice A m c, .bool true]) ∧ w'.ownsRow w.heap.size 3 1 (.slice A m c) m ((listG g ts.length).map (Value.int .i64))) ∧ Below w.heap.size w w' := by
  obtain ⟨i0, hi0, hz0, hz1, hz2⟩ := info_parts int_info
  have hl2 := Lib.hid h2.len
  have hl3 := Lib.hid h3.len
  have hl1 := Lib.hid h1.len
  have hl4 := Lib.hid h4.len
  have H1 := Lib.hid h1
  have H2 := Lib.hid h2
  have H3 := Lib.hid h3
  have H4 := Lib.hid h4
  clear h1 h2 h3 h4
  have B0 := Lib.hid (new_up w (.cells #[.int .i64 id, .slice A4 n4 c4] 33))
  have P0 := Lib.hid (Blk.new w 33 #[.int .i64 id, .slice A4 n4 c4])
  have sz : (w.alloc (.cells #[.int .i64 id, .slice A4 n4 c4] 33)).heap.size = w.heap.size + 1 := World.size_alloc _ _
  have SZ := Lib.hid sz
  clear sz
  have B1 := Lib.hid (B0.out.alloc B0.out.size (.cells #[] 3))
  have P1 := Lib.hid (P0.out.alloc (.cells #[] 3))
  have O1 := Lib.hid (show ((w.alloc (.cells #[.int .i64 id, .slice A4 n4 c4] 33)).alloc (.cells #[] 3)).ownsRow w.heap.size 3 1 (.slice (some ⟨w.heap.size + 1, 0, none⟩) 0 0) 0 [] from by
    have := World.ownsRow_made (base := w.heap.size) (w.alloc (.cells #[.int .i64 id, .slice A4 n4 c4] 33)) (e := 3) (size := 1) #[] 0 (by rw [SZ.out]; omega) (by unfold maxLen; omega) rfl
    rw [SZ.out] at this
    exact this)
  have x0 := P1.out.cell 0
  have x1 := P1.out.cell 1
  simp only [List.getElem?_toArray, List.getElem?_cons_zero, List.getElem?_cons_succ] at x0 x1
  have hcall := Lib.hid (l42Ok_any A1 A2 A3 A4 n1 c1 n2 c2 n3 c3 n4 c4 room rk ts id xs r _ (H1.out.up B1.out) (H2.out.up B1.out) (H3.out.up B1.out) (H4.out.up B1.out) hc2 hc4 hz)
  cases hok : evOk room ts rk (id, xs) r with
  | false =>
    rw [hok] at hcall
    have Hno := Lib.hid (show evP room ts rk (id, xs) r = none by rw [evP, if_neg (by rw [hok]; simp)])
    clear hok
    go_enter Tryz.func8, Tryz.ntmps8
    go_wp2_with fail
    refine hcall.out.mono ?_; rintro e w2 ⟨rfl, hb2⟩
    have B2 := Lib.hid (below_to B1.out hb2)
    clear hb2
    go_wp2_with fail
    go_ret2
    exact ⟨.inl ⟨Hno.out, _, _, rfl⟩, B2.out⟩
  | true =>
    rw [hok] at hcall
    have Hev := Lib.hid (show evP room ts rk (id, xs) r = goneP room ts rk xs r by rw [evP, if_pos hok])
    obtain ⟨f1, f2, f3, f4, f5, f6, _, _⟩ := evOk_facts hok
    have F3 := Lib.hid f3
    have F4 := Lib.hid f4
    have hn4 : n4 = 3 := by have e3 : xs.length = 3 := vecOk_len f4; have := hl4.out; omega
    have hn1 : n1 = 3 := by have := hl1.out; omega
    have hn2 : n2 ≤ 13 := by have := hl2.out; omega
    have en : n3 = n2 := by have := hl2.out; have := hl3.out; omega
    clear hok f1 f2 f3 f4 f5 f6
    subst hn4 hn1 en
    go_enter Tryz.func8, Tryz.ntmps8
    go_wp2_with fail
    refine hcall.out.mono ?_; rintro e w2 ⟨rfl, hb2⟩
    have B2 := Lib.hid (below_to B1.out hb2)
    have P2 := Lib.hid (P1.out.below hb2 P1.out.lt)
    have O2 := Lib.hid (own_keep O1.out (fun b hb => hb2.block b (O1.out.lt b hb).2))
    clear hb2 x0 x1 hcall P1 O1 P0
    obtain ⟨x0, x1⟩ : w2.cell? ⟨w.heap.size, 0, none⟩ = some (.int .i64 id) ∧ w2.cell? ⟨w.heap.size, 1, none⟩ = some (.slice A4 3 c4) := ⟨P2.out.cell 0, P2.out.cell 1⟩
    go_wp2_with fail
    refine (l42Gone_any A1 A2 A3 A4 3 c1 n3 c2 c3 c4 room rk ts id xs r w2 (H1.out.up B2.out) (H2.out.up B2.out) (H3.out.up B2.out) (H4.out.up B2.out) (by omega) (by omega) F3.out F4.out).mono ?_
    rintro e w5 ⟨hres, hb5⟩
    have B5 := Lib.hid (below_to B2.out hb5)
    have O5 := Lib.hid (own_keep O2.out (fun b hb => hb5.block b (O2.out.lt b hb).2))
    have Olt := Lib.hid (fun b hb => (O2.out.lt b hb).2)
    have hw5 : w2.heap.size ≤ w5.heap.size := hb5.size
    have hw2 : w.heap.size ≤ w2.heap.size := B2.out.size
    clear hb5 x0 x1 O2
    rcases hres with ⟨hg, A5, c5, rfl⟩ | ⟨g, b, hg, rfl, hblk, hbl⟩
    · have Hg := Lib.hid hg
      clear hg
      go_wp2_with fail
      refine wp_loop_rounds 1 ?_
      rw [rounds_succ]
      go_wp2_with fail
      go_ret2
      exact ⟨.inl ⟨by rw [Hev.out]; exact Hg.out, _, _, rfl⟩, B5.out⟩
    · have Hg := Lib.hid hg
      have Hblk := Lib.hid hblk
      clear hg hblk
      go_wp2_with fail
      go_loopw [12, 15] (fun v i wr => ∃ (k : Nat) (A6 : Option Addr) (m6 c6 : Nat), i = .int .i64 k ∧ k ≤ n3 ∧ v = .slice A6 m6 c6 ∧ Below w.heap.size w wr ∧ Blk wr b 4 (flA g n3) ∧
        wr.ownsRow w.heap.size 3 1 (.slice A6 m6 c6) m6 ((listG g k).map (Value.int .i64)) ∧ Hid ((Value.slice A6 m6 c6).ownBlock ≠ some b)) (fun _ i _ => n3 - (intOf i).toNat)
      case atStart => exact ⟨0, _, _, _, rfl, Nat.zero_le _, rfl, B5.out, Hblk.out, O5.out, Lib.hid (fun e => by have := Olt.out b e; omega)⟩
      case round =>
        clear B5 Hblk O5 Olt
        obtain ⟨k, A6, m6, c6, rfl, hk, rfl, hbel, hblk, hown, Hne⟩ := hrel
        have Hbel := Lib.hid hbel
        have Hblk := Lib.hid hblk
        have Hown := Lib.hid hown
        have lz := hbel.size
        clear hbel hblk hown
        by_cases hlt : k < n3
        · have k1 : (0 : Int) ≤ (k : Int) := by omega
          have k2 : (k : Int) < (n3 : Int) := by omega
          have s1 := Hblk.out.cell k
          rw [flA_at _ hlt] at s1
          have hs := listG_succ g k
          have lm : m6 ≤ 900 := by
            have h1 := Hown.out.1
            have h2 := listG_len g k
            rw [List.length_map] at h1
            omega
          cases hgk : g k with
          | false =>
            rw [hgk] at s1 hs
            have Hs := Lib.hid hs
            clear hs hgk
            go_wp2_with fail
            go_roundw
            case measure => simp [intOf]; omega
            case rel => exact ⟨k + 1, A6, m6, c6, by go_num, by omega, rfl, Hbel.out, Hblk.out, by rw [Hs.out]; simpa using Hown.out, Hne⟩
          | true =>
            rw [hgk] at s1 hs
            have Hs := Lib.hid hs
            clear hs hgk
            have Hal := Lib.hid (new_up wr (.cells #[.int .i64 (k : Int)] 3))
            have Own7 := Lib.hid (own_keep Hown.out (w' := wr.alloc (.cells #[.int .i64 (k : Int)] 3)) (fun b hb => Below.heap_alloc _ _ _ (Hown.out.lt b hb).2))
            have X7 := Lib.hid (src_int wr k)
            have lz7 : w.heap.size ≤ (wr.alloc (.cells #[.int .i64 (k : Int)] 3)).heap.size := by rw [World.size_alloc]; omega
            go_wp2_with (at_builtin; refine wpList_append_src _ rfl _ _ 22 rfl w.heap.size 3 i0 _ 1 8 Tryz.underlying22 hi0 hz0 hz1 hz2 rfl (by omega) (.slice A6 m6 c6) m6 _ rfl Own7.out (some ⟨wr.heap.size, 0, none⟩) 1 1 [.int .i64 (k : Int)] rfl X7.out (by simp [Value.oneCell']) (by unfold maxLen; omega) (by omega) lz7 ?_; intro v' w8 hown8 hgrow8 hat8)
            have hbel8 := Lib.hid ((Hbel.out.alloc lz (.cells #[.int .i64 (k : Int)] 3)).grown hgrow8 lz7 (fun j e => (Own7.out.lt j e).1))
            have hblk8 := Lib.hid ((Hblk.out.alloc (.cells #[.int .i64 (k : Int)] 3)).grown hgrow8 (fun e => Hne.out e.symm))
            have hne8 : v'.ownBlock ≠ some b := fun e => by
              rcases hat8 with h | h
              · rw [h] at e; exact Hne.out e
              · rw [h, World.size_alloc] at e; injection e with e; have := Hblk.out.lt; omega
            obtain ⟨A8, c8, rfl⟩ := own_shape hown8
            have Hne8 := Lib.hid hne8
            have Own8 := Lib.hid hown8
            clear hne8 hown8 hgrow8 hat8 Own7 X7 Hal
            go_wp2_with fail
            go_roundw
            case measure => simp [intOf]; omega
            case rel => exact ⟨k + 1, A8, m6 + 1, c8, by go_num, by omega, rfl, hbel8.out, hblk8.out, by rw [Hs.out, List.map_append]; exact Own8.out, Hne8⟩
        · obtain rfl : k = n3 := by omega
          go_wp2_with fail
          go_ret2
          exact ⟨.inr ⟨g, A6, m6, c6, by rw [Hev.out]; exact Hg.out, rfl, by rw [hl2.out]; exact Hown.out⟩, Hbel.out⟩
end Go.Proofs.YtkcflajhmekcaaaGreat
