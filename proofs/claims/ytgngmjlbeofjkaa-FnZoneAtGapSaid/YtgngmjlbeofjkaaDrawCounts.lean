/- Walks: the draws of the laws on zones. -/
import Derived.Test.YtgngmjlbeofjkaaDrawZones
namespace Go.Proofs.Ytgngmjlbeofjkaa
open Go.RowKit

/-- What a draw leaves: a room, nodes, zones and numbers, that can be read. -/
structure Drew4 (w : World) (A1 A2 A3 A4 : Option Addr) (n1 n2 n3 n4 : Nat) (room : List Int) (bs : List (List Tk)) (zones ids : List Int) : Prop where
  r : R4 w A1 A2 A3 A4 n1 n2 n3 n4 room bs zones ids
  flat : bs.flatten.length ≤ 1000
  le2 : n2 ≤ 1000
  le3 : n3 ≤ 1001
  le4 : n4 ≤ 1001

theorem own_cap {w : World} {base n c size : Nat} {A : Option Addr} {e : TypeId} {xs : List Value} (h : w.ownsRow base e size (.slice A n c) n xs) : n ≤ c ∧ c ≤ maxLen := by
  rcases h.2 with ⟨hv, h0⟩ | ⟨g, cap, cur, hv, _, _, hc, hm, _⟩
  · injection hv with _ _ hv; subst hv; exact ⟨by omega, by unfold maxLen; omega⟩
  · injection hv with _ _ hv; subst hv; exact ⟨hc, hm⟩
theorem Drawn.read {w0 w : World} {rb n c : Nat} {A : Option Addr} {xs : List Int} {vs : List Value} (h : Drawn w0 w rb n 22 c A xs vs) (hn : n ≤ 5) : ∃ bs, RdB w w.heap.size A n bs ∧ bs.flatten.length ≤ 1000 := by
  obtain ⟨bs, h1, h2, _⟩ := h.bins.read h.out (by omega) (by omega)
  exact ⟨bs, h1, by have : n * 22 ≤ 5 * 22 := Nat.mul_le_mul_right _ hn; omega⟩

set_option maxRecDepth 100000 in
set_option maxHeartbeats 1600000 in
theorem drawZoneCounts_cap (A : Option Addr) (n c : Nat) (w : World) (h : RdU w w.heap.size A n) (hc : n ≤ c) (hcm : c ≤ 9223372036854775807) :
    Calls Try.prog 20 #[.slice A n c] w fun e w' => ∃ A1 A2 A3 A4 n2 n3 n4 c2 c3 c4 room bs zones ids, e = .returned (.tuple #[.slice A1 3 3, .slice A2 n2 c2, .slice A3 n3 c3, .slice A4 n4 c4]) ∧ Drew4 w' A1 A2 A3 A4 3 n2 n3 n4 room bs zones ids ∧ n4 ≤ c4 ∧ c4 ≤ maxLen ∧ Below w.heap.size w w' := by
  go_enter Try.func20, Try.ntmps20
  go_wp2_with fail
  refine (l6Open_any A n c w h hc hcm).mono ?_; rintro e w1 ⟨rfl, R1, B1⟩
  go_wp2_with fail
  refine (l91Bins_any w.heap.size 0 w1 R1 (by omega)).mono ?_; rintro e w2 ⟨rb, n2, c2, A2, xs, vs, rfl, hD, hn2, O2, q2, hq2, R2⟩
  go_wp2_with fail
  refine (l92Zones_any w.heap.size q2 n2 c2 A2 w2 R2 (by omega) (by omega) (fun w' o => (hD.only o R1.lt).read hn2)).mono ?_; rintro e w3 ⟨A3, n3, c3, zs, A4, n4, c4, is, rfl, hZ, hI, hn3, hn4, O3, q3, hq3, R3⟩
  have hD3 := hD.only O3 R1.lt
  obtain ⟨bs, hbs, hbl⟩ := hD3.read hn2
  have res : Drew4 w3 (some ⟨rb, 0, none⟩) A2 A3 A4 3 n2 n3 n4 xs bs zs is := ⟨⟨hD3.room.rd' hD3.len (by omega), hbs, hZ.rd (by omega), hI.rd (by omega)⟩, hbl, by omega, hn3, hn4⟩
  have hB := (O2.trans O3).to_below B1 (Nat.le_refl _)
  have hcap := own_cap hI
  have Res := Lib.hid res
  have HB := Lib.hid hB
  clear res hB hD3 hD hbs hbl hZ hI O2 O3 R1 R2 R3 B1 h
  go_wp2
  refine bodyPost_ret (v := .tuple #[.slice (some ⟨rb, 0, none⟩) 3 3, .slice A2 n2 c2, .slice A3 n3 c3, .slice A4 n4 c4]) (by simp [results, Try.results20, go_sem]) rfl ⟨_, A2, A3, A4, n2, n3, n4, c2, c3, c4, xs, bs, zs, is, rfl, Res.out, hcap.1, hcap.2, HB.out⟩
theorem drawZoneCounts_any (A : Option Addr) (n c : Nat) (w : World) (h : RdU w w.heap.size A n) (hc : n ≤ c) (hcm : c ≤ 9223372036854775807) :
    Calls Try.prog 20 #[.slice A n c] w fun e w' => ∃ A1 A2 A3 A4 n2 n3 n4 c2 c3 c4 room bs zones ids, e = .returned (.tuple #[.slice A1 3 3, .slice A2 n2 c2, .slice A3 n3 c3, .slice A4 n4 c4]) ∧ Drew4 w' A1 A2 A3 A4 3 n2 n3 n4 room bs zones ids ∧ Below w.heap.size w w' :=
  (drawZoneCounts_cap A n c w h hc hcm).mono fun _ _ ⟨A1, A2, A3, A4, n2, n3, n4, c2, c3, c4, room, bs, zones, ids, h1, h2, _, _, h3⟩ => ⟨A1, A2, A3, A4, n2, n3, n4, c2, c3, c4, room, bs, zones, ids, h1, h2, h3⟩

set_option maxRecDepth 100000 in
set_option maxHeartbeats 1600000 in
theorem drawZoneGap_any (A : Option Addr) (n c : Nat) (w : World) (h : RdU w w.heap.size A n) (hc : n ≤ c) (hcm : c ≤ 9223372036854775807) :
    Calls Try.prog 25 #[.slice A n c] w fun e w' => ∃ A1 A2 A3 A4 n2 n3 n4 c2 c3 c4 room bs zones ids, e = .returned (.tuple #[.slice A1 3 3, .slice A2 n2 c2, .slice A3 n3 c3, .slice A4 n4 c4]) ∧ Drew4 w' A1 A2 A3 A4 3 n2 n3 n4 room bs zones ids ∧ Below w.heap.size w w' := by
  go_enter Try.func25, Try.ntmps25
  go_wp2_with fail
  refine (drawZoneCounts_any A n c w h hc hcm).mono ?_; rintro e w1 ⟨A1, A2, A3, A4, n2, n3, n4, c2, c3, c4, room, bs, zones, ids, rfl, hD, hB⟩
  have HD := Lib.hid hD
  have HB := Lib.hid hB
  clear hD hB h
  go_wp2
  refine bodyPost_ret (v := .tuple #[.slice A1 3 3, .slice A2 n2 c2, .slice A3 n3 c3, .slice A4 n4 c4]) (by simp [results, Try.results25, go_sem]) rfl ⟨A1, A2, A3, A4, n2, n3, n4, c2, c3, c4, room, bs, zones, ids, rfl, HD.out, HB.out⟩
end Go.Proofs.Ytgngmjlbeofjkaa
