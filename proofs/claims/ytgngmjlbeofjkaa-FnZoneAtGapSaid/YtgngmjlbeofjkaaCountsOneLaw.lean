/- The walk of the law FnZoneCountsOne: each task counts in its zone. -/
import Derived.Test.YtgngmjlbeofjkaaZoneCountsLaw
import Derived.Test.YtgngmjlbeofjkaaCountsOnePure
import Derived.Deep.RegionLaw
import Derived.Deep.DrawnRows
import Derived.Outline
namespace Go.Proofs.Ytgngmjlbeofjkaa
open Go.RowKit
attribute [local go_sem ↓] Go.wp_at_zero Go.wp_at_succ

/-- A part of a slice of integers, as a source. -/
theorem int_src {w : World} {B b o n k m : Nat} {xs : List Int} (h : RdI w B (some ⟨b, o, none⟩) n xs) (hk : k + m ≤ n) : Src w 1 (some ⟨b, o + k, none⟩) m (((xs.drop k).take m).map (Value.int .i64)) := by
  have hl := h.len
  refine ⟨by simp; omega, fun hm => ⟨_, rfl, fun j u hj => ?_⟩⟩
  have hjm : j < m := by
    rcases Nat.lt_or_ge j m with h' | h'
    · exact h'
    · rw [List.getElem?_eq_none (by simp; omega)] at hj; cases hj
  obtain ⟨b', o', e1, _, e3⟩ := h.at_ (k := k + j) (by omega)
  injection e1 with e1
  injection e1 with e1 e2
  subst e1 e2
  rw [addr_add, Nat.add_assoc, e3, ← hj, List.getElem?_map, List.getElem?_take_of_lt hjm, List.getElem?_drop, List.getElem?_eq_getElem (by omega)]
  rfl

theorem ints_one {xs : List Int} : ∀ u ∈ xs.map (Value.int .i64), u.oneCell' = true := by
  intro u hu
  obtain ⟨x, _, rfl⟩ := List.mem_map.1 hu
  rfl

set_option maxRecDepth 100000 in
set_option maxHeartbeats 3200000 in
theorem zoneCountsOne_walk (A B : Option Addr) (n c n' c' : Nat) (w : World) (h : RdU w w.heap.size A n) (hc : n ≤ c) (hcm : c ≤ 9223372036854775807) :
    Calls Try.prog 4 #[.slice A n c, .slice B n' c'] w fun e w' => e = .returned (.bool true) ∧ Below w.heap.size w w' := by
  obtain ⟨i0, hi0, hz0, hz1, hz2⟩ := info_parts int_info
  by_cases kn : 1048576 < n
  · go_enter Try.func4, Try.ntmps4
    go_wp2
    go_ret
    exact ⟨rfl, Below.refl _ _⟩
  by_cases kn' : 1048576 < n'
  · go_enter Try.func4, Try.ntmps4
    go_wp2
    go_ret
    exact ⟨rfl, Below.refl _ _⟩
  go_enter Try.func4, Try.ntmps4
  go_wp2_with fail
  refine (drawZoneCounts_cap A n c w h hc hcm).mono ?_; rintro e w1 ⟨A1, A2, A3, A4, n2, n3, n4, c2, c3, c4, room, bs, zones, ids, rfl, D1, hcap, hcap2, B1⟩
  have hfl := D1.flat
  have hn3 := D1.le3
  have hn4 := D1.le4
  have l3 := Lib.hid D1.r.c.len
  have l4 := Lib.hid D1.r.d.len
  go_wp2_with fail
  refine (zoneCountsI_any _ _ _ _ _ _ _ _ _ _ _ _ _ _ _ _ _ D1.r.a D1.r.b D1.r.c D1.r.d (by omega)).mono ?_; rintro e w2 ⟨hI, d2⟩
  have B2 := below_to B1 d2
  have D2 := D1.up d2
  clear h
  by_cases hz : zonesOk room bs zones ids = true
  · rw [if_pos hz] at hI
    obtain ⟨g2, rfl, hg2, hb2⟩ := hI
    have HZ := Lib.hid hz
    clear hz
    go_wp2_with fail
    refine (zoneCountsS_any _ _ _ _ _ _ _ _ _ _ _ _ _ _ _ _ _ D2.r.a D2.r.b D2.r.c D2.r.d (by omega)).mono ?_; rintro e w3 ⟨hS, d3⟩
    rw [if_pos HZ.out] at hS
    obtain ⟨g3, rfl, hg3, hb3⟩ := hS
    have B3 := below_to B2 d3
    have D3 := D2.up d3
    have hb2' := hb2.below d3 hb2.lt
    have r2 : RdI w3 w3.heap.size (some ⟨g2, 0, none⟩) 4 (countsP bs zones ids) := RdI.of_blk hb2' (countsP_len _ _ _) (by omega)
    have r3 : RdI w3 w3.heap.size (some ⟨g3, 0, none⟩) 4 (countsP bs zones ids) := RdI.of_blk hb3 (countsP_len _ _ _) (by omega)
    clear hb2 hb2' hb3 D1 D2 d2 d3 B1 B2
    have R2 := Lib.hid r2
    have R3 := Lib.hid r3
    clear r2 r3
    go_wp2_with fail
    refine (sameInts_any _ _ _ _ _ _ _ _ _ R2.out R3.out).mono ?_; rintro e w4 ⟨rfl, m4, rfl⟩
    by_cases h40 : n4 = 0
    · subst h40
      go_wp2_with fail
      refine (sameInts_any _ _ _ _ _ _ _ _ _ (R2.out.drewN m4) (R3.out.drewN m4)).mono ?_; rintro e w5 ⟨rfl, m5, rfl⟩
      go_wp2
      go_ret
      exact ⟨rfl, below_drewN B3 _⟩
    · have B4 := Lib.hid (below_drewN B3 m4)
      have D4 := Lib.hid (D3.up (drew_below w3 m4))
      have R4' := Lib.hid (show RdI (w3.drewN m4) (w3.drewN m4).heap.size (some ⟨g2, 0, none⟩) 4 (countsP bs zones ids) from R2.out.drewN m4)
      clear B3 D3 R2 R3
      generalize w3.drewN m4 = w4 at B4 D4 R4' ⊢
      have hk : n' % n4 < n4 := Nat.mod_lt _ (by omega)
      have a1 : (n' : Int).tmod n4 = (n' : Int) % n4 := IntWalk.rem_in _ _ (by omega)
      have a2 : (n' : Int) % n4 = ((n' % n4 : Nat) : Int) := by rw [Int.natCast_emod]
      have a3 : (n' : Int).tmod n4 = ((n' % n4 : Nat) : Int) := a1.trans a2
      have hnz : (n4 : Int) ≠ 0 := by omega
      have hnz' : ((n4 : Int) == 0) = false := by simp; omega
      clear a1 a2
      generalize n' % n4 = k at hk a3
      obtain ⟨b4, o4, e4, hb4, hcell4⟩ := D4.out.r.d.at_ hk
      subst e4
      have k1 : (0 : Int) ≤ (k : Int) := by omega
      have k2 : (k : Int) ≤ (n4 : Int) := by omega
      have k3 : (k : Int) + 1 ≤ (n4 : Int) := by omega
      have k4 : (k : Int) ≤ (c4 : Int) := by omega
      have k5 : IntKind.i64.wrap ((k : Int) + 1) = (k : Int) + 1 := wr64 (by omega) (by omega)
      have k6 : (n4 : Int) ≤ (c4 : Int) := by omega
      have k7 : (0 : Int) ≤ (k : Int) + 1 := by omega
      obtain ⟨Ax, hAx⟩ : ∃ Ax, (if c4 = k + 1 then (some ⟨b4, o4, none⟩ : Option Addr) else some ⟨b4, o4 + (k + 1), none⟩) = Ax := ⟨_, rfl⟩
      have own0 := Lib.hid (show (w4.alloc (.cells #[] 3)).drew.ownsRow w4.heap.size 3 1 (.slice (some ⟨w4.heap.size, 0, none⟩) 0 0) 0 [] from World.ownsRow_made w4 #[] 0 (Nat.le_refl _) (by unfold maxLen; omega) rfl)
      have B5 := Lib.hid (show Below w4.heap.size w4 (w4.alloc (.cells #[] 3)).drew from (alloc_up w4 (.cells #[] 3)).drew)
      have R5 := Lib.hid ((D4.out.r.d.up B5.out))
      have S1 := Lib.hid (int_src (k := 0) (m := k) R5.out (by omega))
      have src2 := Lib.hid (show ∀ w', Below w4.heap.size w4 w' → Src w' 1 Ax (n4 - (k + 1)) (((ids.drop (k + 1)).take (n4 - (k + 1))).map (Value.int .i64)) from fun w' hb => by
        by_cases hck : c4 = k + 1
        · have e : n4 - (k + 1) = 0 := by omega
          rw [e]
          exact ⟨by simp, fun h => absurd h (by omega)⟩
        · rw [if_neg hck] at hAx
          rw [← hAx]
          exact int_src (D4.out.r.d.up hb) (by omega))
      have eids : [] ++ ((ids.drop 0).take k).map (Value.int .i64) ++ ((ids.drop (k + 1)).take (n4 - (k + 1))).map (Value.int .i64) = (ids.take k ++ ids.drop (k + 1)).map (Value.int .i64) := by
        rw [List.nil_append, ← List.map_append, List.drop_zero, List.take_of_length_le (l := ids.drop (k + 1)) (by rw [List.length_drop]; have := l4.out; omega)]
      have Eids := Lib.hid eids
      clear eids
      have hcall := Lib.hid (show ∀ (w' : World) (A6 : Option Addr) (n6 c6 : Nat), Below w4.heap.size w4 w' → RdI w' w'.heap.size A6 n6 (ids.take k ++ ids.drop (k + 1)) →
          Calls Try.prog 21 #[.slice A1 3 3, .slice A2 n2 c2, .slice A3 n3 c3, .slice A6 n6 c6] w' fun e w'' => (∃ g, e = .returned (.slice (some ⟨g, 0, none⟩) 4 4) ∧ w'.heap.size ≤ g ∧ Blk w'' g 61 ((countsP bs zones (ids.take k ++ ids.drop (k + 1))).map (Value.int .i64)).toArray) ∧ Below w'.heap.size w' w'' from fun w' A6 n6 c6 hb hr =>
        (zoneCountsI_any A1 A2 A3 A6 3 3 n2 c2 n3 c3 n6 c6 room zones (ids.take k ++ ids.drop (k + 1)) bs w' (D4.out.up hb).r.a (D4.out.up hb).r.b (D4.out.up hb).r.c hr (by omega)).mono (fun e w'' hh => ⟨by have := hh.1; rwa [if_pos (zonesOk_without k HZ.out)] at this, hh.2⟩))
      go_wp2_with fail
      go_region_held3 (fun _ => True) (trivial) ((first
        | (go_at_call 21; (with_reducible refine (hcall.out w6 A6 _ c6 B6.out RI6.out).mono ?_); rintro e w7 ⟨⟨g7, rfl, hg7, hb7⟩, d7⟩; have Hb7 := Lib.hid hb7; have D7 := Lib.hid (below_to B6.out d7); clear hb7 d7)
        | (refine step_append_src _ (by rfl) _ _ 22 (by rfl) w4.heap.size 3 i0 _ 1 8 Try.underlying22 hi0 hz0 hz1 hz2 rfl (by omega) v5 k _ (by rfl) hown5 Ax (n4 - (k + 1)) (c4 - (k + 1)) _ (by rfl) (src2.out w5 Bw5.out) ints_one (by unfold maxLen; omega) (by omega) (by have := Bw5.out.size; omega) ?_; intro v6 w6 hown6 hgrow6 hrow6; obtain ⟨A6, c6, rfl⟩ := own_shape hown6; have B6 := Lib.hid (Bw5.out.grown hgrow6 Bw5.out.size (fun j e => (hown5.lt j e).1)); have RI6 := Lib.hid (RdI.of_own (Eids.out ▸ hown6) (by omega)); clear hown6 hgrow6 hrow6)
        | (refine step_append_src _ (by rfl) _ _ 22 (by rfl) w4.heap.size 3 i0 _ 1 8 Try.underlying22 hi0 hz0 hz1 hz2 rfl (by omega) (.slice (some ⟨w4.heap.size, 0, none⟩) 0 0) 0 [] (by rfl) own0.out (some ⟨b4, o4 + 0, none⟩) k c4 _ (by rfl) S1.out ints_one (by unfold maxLen; omega) (by omega) (by simp) ?_; intro v5 w5 hown5 hgrow5 hrow5; rw [Nat.zero_add] at hown5; have Bw5 := Lib.hid (B5.out.grown hgrow5 B5.out.size (fun j e => (own0.out.lt j e).1)); clear hgrow5 hrow5)))
      have D8 := Lib.hid (D4.out.up D7.out)
      have B8 := Lib.hid (below_to B4.out D7.out)
      have R8 := Lib.hid (R4'.out.up D7.out)
      have hl8 := countsP_len bs zones (ids.take k ++ ids.drop (k + 1))
      obtain ⟨b9, o9, e9, hb9, hcell9⟩ := D8.out.r.d.at_ hk
      injection e9 with e9
      injection e9 with e9 e10
      subst e9 e10
      clear hcell4
      have EC := Lib.hid (counts_without (bs := bs) (zones := zones) (ids := ids) (k := k) (by have := l4.out; omega))
      have ZC := Lib.hid (zonesOk_without k HZ.out)
      generalize hC' : countsP bs zones (ids.take k ++ ids.drop (k + 1)) = C' at Hb7 hl8 EC
      have HC' := Lib.hid hC'
      clear hC'
      have k8 : (k : Int) < (n4 : Int) := by omega
      generalize ids[k]?.getD 0 = id at hcell9 EC
      have ecall := binsWhere_any A1 A2 3 3 n2 c2 room bs id w7 D8.out.r.a D8.out.r.b (by omega)
      have ew : binsWhereP room bs id = whereP bs id := by rw [binsWhereP, if_pos (zonesOk_bins HZ.out)]
      rw [ew] at ecall
      rcases whereP_cases bs id with ⟨hw, _⟩ | ⟨p, hp, hw, _⟩
      · rw [hw] at ecall
        have Ecall := Lib.hid ecall
        have EC2 : Hid (countsP bs zones ids = C') := by have := EC.out; rw [stepC, if_neg (by rw [hw]; omega)] at this; exact this
        clear ecall ew hw
        rw [EC2.out] at R8
        go_wp2_with fail
        refine Ecall.out.mono ?_; rintro e w9 ⟨rfl, d9⟩
        have B9 := Lib.hid (below_to B8.out d9)
        have R9 := Lib.hid (R8.out.up d9)
        have Q9 := Lib.hid (RdI.of_blk (Hb7.out.below d9 Hb7.out.lt) hl8 (by omega))
        clear d9
        go_wp2_with fail
        refine (sameInts_any _ _ _ _ _ _ _ _ _ Q9.out R9.out).mono ?_; rintro e w10 ⟨rfl, m10, rfl⟩
        go_wp2
        go_ret
        exact ⟨rfl, below_drewN B9.out _⟩
      · rw [hw] at ecall
        have Ecall := Lib.hid ecall
        have EC2 := Lib.hid (show countsP bs zones ids = bump C' (zones[p]?.getD 0) from by have := EC.out; rw [stepC, if_pos (by rw [hw]; omega), hw] at this; simpa using this)
        have hpn : p < n3 := by have := zonesOk_len HZ.out; have := l3.out; omega
        obtain ⟨z, hz⟩ := Int.eq_ofNat_of_zero_le (zonesOk_zone HZ.out p).1
        have hz3 : z ≤ 3 := by have := (zonesOk_zone HZ.out p).2; omega
        clear ecall ew hw
        have R4z := Lib.hid (show RdI w4 w4.heap.size (some ⟨g2, 0, none⟩) 4 (bump C' (z : Int)) from by have := R4'.out; rw [EC2.out, hz] at this; exact this)
        clear R8
        have hv := countsP_le ZC.out z
        rw [HC'.out] at hv
        obtain ⟨v, hv'⟩ : ∃ v, v = C'[z]?.getD 0 := ⟨_, rfl⟩
        rw [← hv'] at hv
        have Hv := Lib.hid hv'
        have Hz := Lib.hid hz
        clear hv' hz
        go_wp2_with fail
        refine Ecall.out.mono ?_; rintro e w9 ⟨rfl, d9⟩
        have B9 := Lib.hid (below_to B8.out d9)
        have E9 := Lib.hid (below_to D7.out d9)
        have Q9 := Lib.hid (Hb7.out.below d9 Hb7.out.lt)
        obtain ⟨b3, o3, rfl, hb3, hc3⟩ := (D8.out.up d9).r.c.at_ hpn
        rw [Hz.out] at hc3
        have hcz := counts_cell Q9.out hl8 hz3
        rw [← Hv.out] at hcz
        have hfz : w9.frozen? ⟨g7, z, none⟩ = false := Q9.out.frozen _
        have q1 : (0 : Int) ≤ (p : Int) := by omega
        have q2 : (p : Int) < (n3 : Int) := by omega
        have q3 : (0 : Int) ≤ (z : Int) := by omega
        have q4 : (z : Int) < 4 := by omega
        have q5 : IntKind.i64.wrap (v + 1) = v + 1 := wr64 (by omega) (by omega)
        clear d9 hcell9
        go_wp2
        go_still_tail 14, (by kernel_rfl)
        change wpList _ _ _ _ _ w9.drew
        go_wp2_with fail
        have hg4 : w4.heap.size ≤ g7 := by have := B6.out.size; omega
        have E10 := Lib.hid (show Below w4.heap.size w4 (w9.setCell ⟨g7, z, none⟩ (.int .i64 (v + 1))).drew from (E9.out.setCell (by simp; omega) _).drew)
        have Q10 : Blk (w9.setCell ⟨g7, z, none⟩ (.int .i64 (v + 1))).drew g7 61 ((bump C' (z : Int)).map (Value.int .i64)).toArray := by
          have := Q9.out.set_ z (.int .i64 (v + 1))
          rw [ints_set] at this
          rw [bump, Int.toNat_natCast, ← Hv.out]
          exact this
        have B10 := Lib.hid (below_to B4.out E10.out)
        have R10 := Lib.hid (R4z.out.up E10.out)
        have Q11 := Lib.hid (RdI.of_blk Q10 ((bump_len _ _).trans hl8) (by omega))
        clear Q10 hc3 hcz hfz hv q5 hcap2
        generalize (w9.setCell ⟨g7, z, none⟩ (.int .i64 (v + 1))).drew = w10 at B10 R10 Q11 ⊢
        refine (sameInts_any _ _ _ _ _ _ _ _ _ Q11.out R10.out).mono ?_; rintro e w11 ⟨rfl, m11, rfl⟩
        go_wp2
        go_ret
        exact ⟨rfl, below_drewN B10.out _⟩
  · have hz' : ¬ zonesOk room bs zones ids = true := hz
    rw [if_neg hz'] at hI
    obtain ⟨A5, c5, rfl⟩ := hI
    go_wp2_with fail
    refine (zoneCountsS_any _ _ _ _ _ _ _ _ _ _ _ _ _ _ _ _ _ D2.r.a D2.r.b D2.r.c D2.r.d (by omega)).mono ?_; rintro e w3 ⟨hS, d3⟩
    rw [if_neg hz'] at hS
    obtain ⟨A6, c6, rfl⟩ := hS
    have B3 := Lib.hid (below_to B2 d3)
    clear hz hz' D1 D2 d2 d3 B1 B2
    go_wp2_with fail
    refine (sameInts_any A5 A6 0 c5 c6 0 0 [] _ RdI.nil RdI.nil).mono ?_; rintro e w4 ⟨rfl, m4, rfl⟩
    go_wp2_with fail
    refine (sameInts_any A5 A6 0 c5 c6 0 0 [] _ RdI.nil RdI.nil).mono ?_; rintro e w4 ⟨rfl, m5, rfl⟩
    go_wp2
    go_ret
    exact ⟨rfl, below_drewN B3.out _⟩
end Go.Proofs.Ytgngmjlbeofjkaa
