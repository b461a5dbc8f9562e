/- The walk of the law FnZoneGapOne: one zone has no gap. -/
import Derived.Test.YtgngmjlbeofjkaaZoneGapLaw
namespace Go.Proofs.Ytgngmjlbeofjkaa
open Go.RowKit

theorem zonesOk_zeros {room : List Int} {bs : List (List Tk)} {zones ids : List Int} (h : zonesOk room bs zones ids = true) : zonesOk room bs (List.replicate bs.length 0) ids = true := by
  simp only [zonesOk, Bool.and_eq_true] at h ⊢
  refine ⟨⟨⟨⟨h.1.1.1.1, by simp⟩, ?_⟩, h.1.2⟩, h.2⟩
  rw [List.all_eq_true]
  intro x hx
  rw [(List.mem_replicate.1 hx).2]
  rfl
theorem gap_zeros {room : List Int} {bs : List (List Tk)} {zones ids : List Int} (h : zonesOk room bs zones ids = true) : gapP room bs (List.replicate bs.length 0) ids = 0 := by
  have h0 := zonesOk_zeros h
  have hz : ∀ i : Nat, (List.replicate bs.length (0 : Int))[i]?.getD 0 = 0 := fun i => by
    by_cases hi : i < bs.length
    · rw [List.getElem?_replicate, if_pos hi]; rfl
    · rw [List.getElem?_replicate, if_neg hi]; rfl
  rcases gap_hit h0 with e | ⟨i, k, hi, hk, e⟩
  · exact e
  · rw [← e]
    unfold cz
    rw [hz i, hz k]
    omega
theorem gap_ids {room : List Int} {bs : List (List Tk)} {zones ids : List Int} (h : zonesOk room bs zones ids = true) : gapP room bs zones ids ≤ ids.length := by
  rcases gap_hit h with e | ⟨i, k, hi, hk, e⟩
  · omega
  · rw [← e]
    have h1 := countsP_bd bs zones ids (zones[i]?.getD 0).toNat
    have h2 := countsP_bd bs zones ids (zones[k]?.getD 0).toNat
    unfold cz
    omega

set_option maxRecDepth 100000 in
set_option maxHeartbeats 3200000 in
theorem zoneGapOne_walk (A : Option Addr) (n c : Nat) (w : World) (h : RdU w w.heap.size A n) (hc : n ≤ c) (hcm : c ≤ 9223372036854775807) :
    Calls Try.prog 5 #[.slice A n c] w fun e w' => e = .returned (.bool true) ∧ Below w.heap.size w w' := by
  obtain ⟨i0, hi0, hz0, hz1, hz2⟩ := info_parts int_info
  by_cases kn : 1048576 < n
  · go_enter Try.func5, Try.ntmps5
    go_wp2
    go_ret
    exact ⟨rfl, Below.refl _ _⟩
  go_enter Try.func5, Try.ntmps5
  go_wp2_with fail
  refine (drawZoneGap_any A n c w h hc hcm).mono ?_; rintro e w1 ⟨A1, A2, A3, A4, n2, n3, n4, c2, c3, c4, room, bs, zones, ids, rfl, D1, B1⟩
  have hfl := D1.flat
  have l2 := Lib.hid D1.r.b.len
  have l4 := Lib.hid D1.r.d.len
  have hn2 := D1.le2
  have hn4 := D1.le4
  clear h
  by_cases hz : zonesOk room bs zones ids = true
  · have G0 := gap_ge hz
    have Gi := gap_ids hz
    rw [l4.out] at Gi
    have Hzero := Lib.hid (gap_zeros hz)
    go_wp2_with fail
    refine (zoneGapI_any _ _ _ _ _ _ _ _ _ _ _ _ _ _ _ _ _ D1.r.a D1.r.b D1.r.c D1.r.d (by omega)).mono ?_; rintro e w2 ⟨rfl, d2⟩
    have B2 := below_to B1 d2
    have D2 := D1.up d2
    go_wp2_with fail
    refine (zoneGapS_any _ _ _ _ _ _ _ _ _ _ _ _ _ _ _ _ _ D2.r.a D2.r.b D2.r.c D2.r.d (by omega)).mono ?_; rintro e w3 ⟨rfl, d3⟩
    have B3 := below_to B2 d3
    have D3 := D2.up d3
    clear hz D1 D2 d2 d3 B1 B2
    generalize gapP room bs zones ids = G at G0 Gi ⊢
    have hGn : ¬ G < 0 := by omega
    have hmk := run_make_n (P := Try.prog) 22 3 i0 _ Try.underlying22 hi0 hz0 n2 (by rw [hz2]; omega) (by omega) w3
    rw [hz1, Nat.mul_one] at hmk
    have D4 := D3.up (alloc_up w3 (.cells (madeCells #[.int .i64 0] n2) 3))
    have hzr : RdI (w3.alloc (.cells (madeCells #[.int .i64 0] n2) 3)) (w3.alloc (.cells (madeCells #[.int .i64 0] n2) 3)).heap.size (some ⟨w3.heap.size, 0, none⟩) n2 (List.replicate bs.length 0) := by
      refine RdI.of_blk (t := 3) ?_ (by rw [List.length_replicate]; exact l2.out) (by omega)
      have e : madeCells #[.int .i64 0] n2 = ((List.replicate bs.length (0 : Int)).map (Value.int .i64)).toArray := by
        apply Array.toList_inj.1
        rw [toList_madeCells_one, l2.out]
        simp
      rw [← e]
      exact Blk.new w3 _ _
    have hI := zoneGapI_any A1 A2 (some ⟨w3.heap.size, 0, none⟩) A4 3 3 n2 c2 n2 n2 n4 c4 room (List.replicate bs.length 0) ids bs _ D4.r.a D4.r.b hzr D4.r.d (by omega)
    rw [Hzero.out] at hI
    have HI := Lib.hid hI
    have B4 := Lib.hid (below_to B3 (alloc_up w3 (.cells (madeCells #[.int .i64 0] n2) 3)))
    clear hI hzr D4 D3 B3 hi0 hz0 hz1 hz2
    go_wp2_with fail
    refine HI.out.mono ?_; rintro e w5 ⟨rfl, d5⟩
    have B5 := Lib.hid (below_to B4.out d5)
    clear d5 hmk
    go_wp2
    go_ret
    exact ⟨rfl, B5.out⟩
  · have hg : gapP room bs zones ids = -1 := by rw [gapP, if_neg hz]
    have hI := zoneGapI_any A1 A2 A3 A4 3 3 n2 c2 n3 c3 n4 c4 room zones ids bs w1 D1.r.a D1.r.b D1.r.c D1.r.d (by omega)
    rw [hg] at hI
    go_wp2_with fail
    refine hI.mono ?_; rintro e w2 ⟨rfl, d2⟩
    have B2 := below_to B1 d2
    have D2 := D1.up d2
    clear hI
    have hS := zoneGapS_any A1 A2 A3 A4 3 3 n2 c2 n3 c3 n4 c4 room zones ids bs w2 D2.r.a D2.r.b D2.r.c D2.r.d (by omega)
    rw [hg] at hS
    go_wp2_with fail
    refine hS.mono ?_; rintro e w3 ⟨rfl, d3⟩
    have B3 := Lib.hid (below_to B2 d3)
    clear hS D1 D2 d2 d3 B1 B2 hz hg
    go_wp2
    go_ret
    exact ⟨rfl, B3.out⟩
end Go.Proofs.Ytgngmjlbeofjkaa
