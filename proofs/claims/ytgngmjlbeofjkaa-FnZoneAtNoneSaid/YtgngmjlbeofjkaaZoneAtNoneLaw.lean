/- The walk of the law FnZoneAtNone: a task is turned away only if no node has room. -/
import Derived.Test.YtgngmjlbeofjkaaFirst
import Derived.Test.YtgngmjlbeofjkaaZoneAtSpec
import Derived.Test.YtgngmjlbeofjkaaDrawZoneAt
import Derived.Test.YtgngmjlbeofjkaaZoneCountsLaw
namespace Go.Proofs.Ytgngmjlbeofjkaa
open Go Go.RowKit

theorem none_iff {room : List Int} {bs : List (List Tk)} {zones ids : List Int} {t : Tk} (hz : zonesOk room bs zones ids = true) : (decide (zoneAtP room bs zones ids t < 0) == decide (firstAtP room bs t < 0)) = true := by
  unfold zoneAtP firstAtP
  by_cases hc : comeOk room bs t = true
  · rw [if_pos ⟨hz, hc⟩, if_pos hc]
    rcases bestP_spec (countsP bs zones ids) zones (roomsTo room bs t.2 bs.length) with ⟨e, e2⟩ | ⟨i, hi, e, _⟩
    · rw [e, first_neg.2 e2]; rfl
    · rw [e]
      unfold firstP
      cases hr : roomsTo room bs t.2 bs.length with
      | nil => rw [hr] at hi; simp at hi
      | cons j l =>
        show (decide ((i : Int) < 0) == decide ((j : Int) < 0)) = true
        have h1 : decide ((i : Int) < 0) = false := decide_eq_false (by omega)
        have h2 : decide ((j : Int) < 0) = false := decide_eq_false (by omega)
        rw [h1, h2]; rfl
  · rw [if_neg (by simp [hc]), if_neg hc]; rfl

set_option maxRecDepth 100000 in
set_option maxHeartbeats 3200000 in
theorem zoneAtNone_walk (A : Option Addr) (n c : Nat) (w : World) (h : RdU w w.heap.size A n) (hc : n ≤ c) (hcm : c ≤ 9223372036854775807) :
    Calls Try.prog 12 #[.slice A n c] w fun e w' => e = .returned (.bool true) ∧ Below w.heap.size w w' := by
  by_cases kn : 1048576 < n
  · go_enter Try.func12, Try.ntmps12
    go_wp2
    go_ret
    exact ⟨rfl, Below.refl _ _⟩
  go_enter Try.func12, Try.ntmps12
  go_wp2_with fail
  refine (drawZoneAt_any A n c w h hc hcm).mono ?_; rintro e w1 ⟨A1, A2, A3, A4, A5, n2, n3, n4, c2, c3, c4, room, bs, zones, ids, idx, xs, rfl, D1, DX1, hn2, B1⟩
  clear h
  have hfl := D1.flat
  have l2 := Lib.hid D1.r.b.len
  have l3 := Lib.hid D1.r.c.len
  have lx := Lib.hid DX1.len
  have hk := Lib.hid (fun w' => box_keep w1 (.int .i64 idx) (.slice A5 3 3) (w' := w'))
  have d2 := alloc_up w1 (.cells #[.int .i64 idx, .slice A5 3 3] 46)
  have sz2 := World.size_alloc w1 (.cells #[.int .i64 idx, .slice A5 3 3] 46)
  have E2 := hk.out _ (Below.refl _ _)
  obtain ⟨x0, x1⟩ := E2
  go_wp2_with fail
  generalize w1.alloc (.cells #[.int .i64 idx, .slice A5 3 3] 46) = w2 at hk d2 sz2 x0 x1 ⊢
  rw [← sz2] at hk
  have SZ2 := Lib.hid sz2
  have D2 := D1.up d2
  have DX2 := DX1.up d2
  have B2 := below_to B1 d2
  clear D1 DX1 B1 d2 sz2
  refine (zoneAtI_any _ _ _ _ _ _ _ _ _ _ _ _ _ _ _ _ _ _ _ _ _ _ D2.r.a D2.r.b D2.r.c D2.r.d DX2 (by omega) (by omega)).mono ?_; rintro e w3 ⟨rfl, d3⟩
  have K3 := Lib.hid d3
  have D3 := D2.up d3
  have DX3 := DX2.up d3
  have B3 := below_to B2 d3
  clear x0 x1 d3 D2 DX2 B2
  obtain ⟨x0, x1⟩ := hk.out _ K3.out
  go_wp2_with fail
  refine (zoneAtS_any _ _ _ _ _ _ _ _ _ _ _ _ _ _ _ _ _ _ _ _ _ _ D3.r.a D3.r.b D3.r.c D3.r.d DX3 (by omega) (by omega)).mono ?_; rintro e w4 ⟨rfl, d4⟩
  have K4 := Lib.hid (below_to K3.out d4)
  have D4 := D3.up d4
  have DX4 := DX3.up d4
  have B4 := below_to B3 d4
  clear x0 x1 d4 D3 DX3 B3 K3
  have HD4 := Lib.hid D4
  have HDX4 := Lib.hid DX4
  have HB4 := Lib.hid B4
  clear D4 DX4 B4
  by_cases hzok : zonesOk room bs zones ids = true
  · have hno := none_iff (bs := bs) (t := (idx, xs)) hzok
    have HZ := Lib.hid hzok
    generalize zoneAtP room bs zones ids (idx, xs) = za at hno
    have Hno := Lib.hid hno
    clear hzok hno
    go_wp2_with fail
    refine (zoneCountsS_any _ _ _ _ _ _ _ _ _ _ _ _ _ _ _ _ _ HD4.out.r.a HD4.out.r.b HD4.out.r.c HD4.out.r.d (by omega)).mono ?_; rintro e w5 ⟨hI, d5⟩
    rw [if_pos HZ.out] at hI
    obtain ⟨g5, rfl, hg5, hb5⟩ := hI
    have K5 := Lib.hid (below_to K4.out d5)
    have B5 := Lib.hid (below_to HB4.out d5)
    have D5 := Lib.hid (HD4.out.up d5)
    have DX5 := Lib.hid (HDX4.out.up d5)
    obtain ⟨x0, x1⟩ := hk.out _ K5.out
    clear hb5 d5
    go_wp2_with fail
    refine (firstAt_any _ _ _ _ _ _ _ _ _ _ _ _ _ _ D5.out.r.a D5.out.r.b DX5.out (by omega) (by omega)).mono ?_; rintro e w6 ⟨rfl, d6⟩
    have B6 := Lib.hid (below_to B5.out d6)
    clear x0 x1 d6
    go_wp2
    go_ret
    exact ⟨ret_bool Hno.out, B6.out⟩
  · generalize zoneAtP room bs zones ids (idx, xs) = za
    have hzok' : ¬ zonesOk room bs zones ids = true := hzok
    go_wp2_with fail
    refine (zoneCountsS_any _ _ _ _ _ _ _ _ _ _ _ _ _ _ _ _ _ HD4.out.r.a HD4.out.r.b HD4.out.r.c HD4.out.r.d (by omega)).mono ?_; rintro e w5 ⟨hI, d5⟩
    rw [if_neg hzok'] at hI
    obtain ⟨A6, c6, rfl⟩ := hI
    have B5 := Lib.hid (below_to HB4.out d5)
    clear hzok hzok' d5
    go_wp2
    go_ret
    exact ⟨rfl, B5.out⟩
end Go.Proofs.Ytgngmjlbeofjkaa
