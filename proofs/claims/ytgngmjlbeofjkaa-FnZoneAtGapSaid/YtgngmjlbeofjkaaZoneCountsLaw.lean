/- The walk of the law FnZoneCounts: zones have all tasks that are somewhere. -/
import Derived.Test.YtgngmjlbeofjkaaDrawCounts
import Derived.Test.YtgngmjlbeofjkaaSumOf
namespace Go.Proofs.Ytgngmjlbeofjkaa
open Go.RowKit

theorem Drew4.up {w w' : World} {A1 A2 A3 A4 : Option Addr} {n1 n2 n3 n4 : Nat} {room : List Int} {bs : List (List Tk)} {zones ids : List Int} (h : Drew4 w A1 A2 A3 A4 n1 n2 n3 n4 room bs zones ids) (hb : Below w.heap.size w w') : Drew4 w' A1 A2 A3 A4 n1 n2 n3 n4 room bs zones ids :=
  ⟨h.r.up hb, h.flat, h.le2, h.le3, h.le4⟩

set_option maxRecDepth 100000 in
set_option maxHeartbeats 3200000 in
theorem zoneCounts_walk (A : Option Addr) (n c : Nat) (w : World) (h : RdU w w.heap.size A n) (hc : n ≤ c) (hcm : c ≤ 9223372036854775807) :
    Calls Try.prog 6 #[.slice A n c] w fun e w' => e = .returned (.bool true) ∧ Below w.heap.size w w' := by
  by_cases kn : 1048576 < n
  · go_enter Try.func6, Try.ntmps6
    go_wp2
    go_ret
    exact ⟨rfl, Below.refl _ _⟩
  go_enter Try.func6, Try.ntmps6
  go_wp2_with fail
  refine (drawZoneCounts_any A n c w h hc hcm).mono ?_; rintro e w1 ⟨A1, A2, A3, A4, n2, n3, n4, c2, c3, c4, room, bs, zones, ids, rfl, D1, B1⟩
  have hfl := D1.flat
  have hn4 := D1.le4
  have l4 := Lib.hid D1.r.d.len
  go_wp2_with fail
  refine (zoneCountsI_any _ _ _ _ _ _ _ _ _ _ _ _ _ _ _ _ _ D1.r.a D1.r.b D1.r.c D1.r.d (by omega)).mono ?_; rintro e w2 ⟨hI, d2⟩
  have B2 := below_to B1 d2
  have D2 := D1.up d2
  clear h
  by_cases hz : zonesOk room bs zones ids = true
  · rw [if_pos hz] at hI
    obtain ⟨g2, rfl, hg2, hb2⟩ := hI
    have HZ := Lib.hid hz
    clear hz
    go_wp2_with fail
    refine (zoneCountsS_any _ _ _ _ _ _ _ _ _ _ _ _ _ _ _ _ _ D2.r.a D2.r.b D2.r.c D2.r.d (by omega)).mono ?_; rintro e w3 ⟨hS, d3⟩
    rw [if_pos HZ.out] at hS
    obtain ⟨g3, rfl, hg3, hb3⟩ := hS
    have B3 := below_to B2 d3
    have D3 := D2.up d3
    have hb2' := hb2.below d3 hb2.lt
    have r2 : RdI w3 w3.heap.size (some ⟨g2, 0, none⟩) 4 (countsP bs zones ids) := RdI.of_blk hb2' (countsP_len _ _ _) (by omega)
    have r3 : RdI w3 w3.heap.size (some ⟨g3, 0, none⟩) 4 (countsP bs zones ids) := RdI.of_blk hb3 (countsP_len _ _ _) (by omega)
    clear hb2 hb2' hb3 D1 D2 d2 d3 B1 B2
    have R2 := Lib.hid r2
    have R3 := Lib.hid r3
    clear r2 r3
    go_wp2_with fail
    refine (sameInts_any _ _ _ _ _ _ _ _ _ R2.out R3.out).mono ?_; rintro e w4 ⟨rfl, m4, rfl⟩
    have B4 := Lib.hid (below_drewN B3 m4)
    have D4 := Lib.hid (D3.up (drew_below w3 m4))
    have R4' := Lib.hid (show RdI (w3.drewN m4) (w3.drewN m4).heap.size (some ⟨g2, 0, none⟩) 4 (countsP bs zones ids) from R2.out.drewN m4)
    clear B3 D3 R2 R3
    generalize w3.drewN m4 = w4 at B4 D4 R4' ⊢
    go_wp2_with fail
    go_loopw [9, 10] (fun s i wr => ∃ k : Nat, i = .int .i64 k ∧ k ≤ n4 ∧ s = .int .i64 ((foundP bs (ids.take k)).length : Int) ∧ (foundP bs (ids.take k)).length ≤ k ∧ Below w4.heap.size w4 wr) (fun _ i _ => n4 - (intOf i).toNat)
    case atStart => exact ⟨0, rfl, Nat.zero_le _, by simp [foundP], by simp [foundP], Below.refl _ _⟩
    case round =>
      obtain ⟨k, rfl, hk, rfl, hfk, hbel⟩ := hrel
      by_cases hlt : k < n4
      · have D5 := Lib.hid (D4.out.up hbel)
        obtain ⟨b, o, rfl, hbB, hcell⟩ := D5.out.r.d.at_ hlt
        have E := Lib.hid (found_take_succ (bs := bs) (ids := ids) (k := k) (by have := l4.out; omega))
        have k1 : (0 : Int) ≤ (k : Int) := by omega
        have k2 : (k : Int) < (n4 : Int) := by omega
        generalize ids[k]?.getD 0 = id at hcell E
        generalize (foundP bs (ids.take k)).length = f at hfk E ⊢
        have ecall := binsWhere_any A1 A2 3 3 n2 c2 room bs id wr D5.out.r.a D5.out.r.b (by omega)
        have ew : binsWhereP room bs id = whereP bs id := by rw [binsWhereP, if_pos (zonesOk_bins HZ.out)]
        rw [ew] at ecall
        generalize hid : whereP bs id = wid at ecall E
        clear ew hid
        by_cases hw : 0 ≤ wid
        · go_wp2_with fail
          refine ecall.mono ?_; rintro e w5 ⟨rfl, d5⟩
          have B5 := Lib.hid (below_to hbel d5)
          clear d5 hbel ecall
          go_wp2
          go_roundw
          case rel => exact ⟨k + 1, by go_num, by omega, by rw [E.out, if_pos hw]; go_num, by rw [E.out, if_pos hw]; omega, B5.out⟩
          case measure => simp [intOf]; omega
        · go_wp2_with fail
          refine ecall.mono ?_; rintro e w5 ⟨rfl, d5⟩
          have B5 := Lib.hid (below_to hbel d5)
          clear d5 hbel ecall
          go_wp2
          go_roundw
          case rel => exact ⟨k + 1, by go_num, by omega, by rw [E.out, if_neg (show ¬ 0 ≤ wid by omega)]; rfl, by rw [E.out, if_neg (show ¬ 0 ≤ wid by omega)]; omega, B5.out⟩
          case measure => simp [intOf]; omega
      · have e0 : ids.take k = ids := List.take_of_length_le (by have := l4.out; omega)
        rw [e0]
        have ecall := sumOf_any (some ⟨g2, 0, none⟩) 4 4 wr.heap.size (countsP bs zones ids) wr (R4'.out.up hbel) (by omega) (fun i => by have := countsP_le HZ.out i; omega)
        rw [counts_sum HZ.out] at ecall
        have Bel := Lib.hid hbel
        clear e0 hbel
        generalize ((foundP bs ids).length : Int) = F at ecall ⊢
        go_wp2_with fail
        refine ecall.mono ?_; rintro e w5 ⟨rfl, rfl⟩
        go_wp2
        go_ret
        exact ⟨rfl, below_to B4.out Bel.out⟩
  · have hz' : ¬ zonesOk room bs zones ids = true := hz
    rw [if_neg hz'] at hI
    obtain ⟨A5, c5, rfl⟩ := hI
    go_wp2_with fail
    refine (zoneCountsS_any _ _ _ _ _ _ _ _ _ _ _ _ _ _ _ _ _ D2.r.a D2.r.b D2.r.c D2.r.d (by omega)).mono ?_; rintro e w3 ⟨hS, d3⟩
    rw [if_neg hz'] at hS
    obtain ⟨A6, c6, rfl⟩ := hS
    have B3 := Lib.hid (below_to B2 d3)
    clear hz hz' D1 D2 d2 d3 B1 B2
    go_wp2_with fail
    refine (sameInts_any A5 A6 0 c5 c6 0 0 [] _ RdI.nil RdI.nil).mono ?_; rintro e w4 ⟨rfl, m4, rfl⟩
    go_wp2_with fail
    refine (sameInts_any A5 A6 0 c5 c6 0 0 [] _ RdI.nil RdI.nil).mono ?_; rintro e w4 ⟨rfl, m5, rfl⟩
    go_wp2
    go_ret
    exact ⟨rfl, below_drewN B3.out _⟩
end Go.Proofs.Ytgngmjlbeofjkaa
