/- The walk of the law FnExactZoneGap: at every four arguments that can be read it returns true, and what was there stays. -/
import Derived.Test.YtgngmjlbeofjkaaLawEq
import Derived.Test.YtgngmjlbeofjkaaImplZone
namespace Go.Proofs.Ytgngmjlbeofjkaa
open Go.RowKit

theorem OwI.rd' {w : World} {lo g n : Nat} {xs : List Int} (h : OwI w lo g xs) (hl : xs.length = n) (hn : n ≤ 9223372036854775807) : RdI w w.heap.size (some ⟨g, 0, none⟩) n xs := by subst hl; exact h.rd hn
theorem OwB.rd' {w : World} {lo g n : Nat} {bs : List (List Tk)} (h : OwB w lo g bs) (hl : bs.length = n) (hn : n ≤ 9223372036854775807) : RdB w w.heap.size (some ⟨g, 0, none⟩) n bs := by subst hl; exact h.rd hn

/-- A room, nodes, zones and numbers, read. -/
structure R4 (w : World) (A1 A2 A3 A4 : Option Addr) (n1 n2 n3 n4 : Nat) (room : List Int) (bs : List (List Tk)) (zones ids : List Int) : Prop where
  a : RdI w w.heap.size A1 n1 room
  b : RdB w w.heap.size A2 n2 bs
  c : RdI w w.heap.size A3 n3 zones
  d : RdI w w.heap.size A4 n4 ids
theorem R4.up {w w' : World} {A1 A2 A3 A4 : Option Addr} {n1 n2 n3 n4 : Nat} {room : List Int} {bs : List (List Tk)} {zones ids : List Int} (h : R4 w A1 A2 A3 A4 n1 n2 n3 n4 room bs zones ids) (hb : Below w.heap.size w w') : R4 w' A1 A2 A3 A4 n1 n2 n3 n4 room bs zones ids :=
  ⟨h.a.up hb, h.b.up hb, h.c.up hb, h.d.up hb⟩
theorem below_to {w a b : World} (h : Below w.heap.size w a) (k : Below a.heap.size a b) : Below w.heap.size w b := h.trans (k.mono h.size)
theorem totB_len (bs : List (List Tk)) : bs.length ≤ totB bs ∧ bs.flatten.length ≤ totB bs := by have := totB_flat bs; omega
theorem drew_below (w : World) (m : Nat) : Below w.heap.size w (w.drewN m) := below_drewN (Below.refl _ _) m

set_option maxRecDepth 100000 in
set_option maxHeartbeats 3200000 in
theorem exactZoneGap_walk (A1 A2 A3 A4 : Option Addr) (n1 c1 n2 c2 n3 c3 n4 c4 : Nat) (room zones ids : List Int) (bs : List (List Tk)) (w : World) (h : R4 w A1 A2 A3 A4 n1 n2 n3 n4 room bs zones ids) :
    Calls Try.prog 3 #[.slice A1 n1 c1, .slice A2 n2 c2, .slice A3 n3 c3, .slice A4 n4 c4] w fun e w' => e = .returned (.bool true) ∧ Below w.heap.size w w' := by
  have l1 := Lib.hid h.a.len
  have l2 := Lib.hid h.b.len
  have l3 := Lib.hid h.c.len
  have l4 := Lib.hid h.d.len
  have b1 := h.a.le
  have b2 := h.b.le
  have b3 := h.c.le
  have b4 := h.d.le
  by_cases k1 : 1048576 < n1
  · go_enter Try.func3, Try.ntmps3
    go_wp2
    go_ret
    exact ⟨rfl, Below.refl _ _⟩
  by_cases k3 : 1048576 < n3
  · go_enter Try.func3, Try.ntmps3
    go_wp2
    go_ret
    exact ⟨rfl, Below.refl _ _⟩
  by_cases k4 : 1048576 < n4
  · go_enter Try.func3, Try.ntmps3
    go_wp2
    go_ret
    exact ⟨rfl, Below.refl _ _⟩
  go_enter Try.func3, Try.ntmps3
  go_wp2_with fail
  refine (szTaskSS_any _ _ _ _ _ _ h.b (by omega) (by omega)).mono ?_; rintro e w1 ⟨r, rfl, hr, B1⟩
  rcases hr with rfl | ⟨hr0, hre⟩
  · go_wp2
    go_ret
    exact ⟨rfl, B1⟩
  have Hre := Lib.hid (show totB bs ≤ 1048576 by omega)
  have hr0' : ¬ r < 0 := by omega
  have k2 : n2 ≤ 1048576 := by have := totB_len bs; have := l2.out; omega
  have hfl := Lib.hid (show bs.flatten.length ≤ 1048576 from Nat.le_trans (totB_len bs).2 (by omega))
  clear hre
  -- the reference's own copies
  go_wp2_with fail
  refine (toIntS_any _ _ _ _ _ (h.up B1).a (by omega)).mono ?_; rintro e w2 ⟨rfl, o1, d2⟩
  have B2 := below_to B1 d2
  go_wp2_with fail
  refine (toTaskSS_any _ _ _ _ _ (h.up B2).b Hre.out).mono ?_; rintro e w3 ⟨rfl, o2, d3⟩
  have B3 := below_to B2 d3
  go_wp2_with fail
  refine (toIntS_any _ _ _ _ _ (h.up B3).c (by omega)).mono ?_; rintro e w4 ⟨rfl, o3, d4⟩
  have B4 := below_to B3 d4
  go_wp2_with fail
  refine (toIntS_any _ _ _ _ _ (h.up B4).d (by omega)).mono ?_; rintro e w5 ⟨rfl, o4, d5⟩
  have B5 := below_to B4 d5
  have y : R4 w5 _ _ _ _ n1 n2 n3 n4 room bs zones ids := ⟨((o1.rd' l1.out b1).up (below_to (below_to d3 d4) d5)), (o2.rd' l2.out b2).up (below_to d4 d5), (o3.rd' l3.out b3).up d5, o4.rd' l4.out b4⟩
  clear o1 o2 o3 o4 d2 d3 d4 d5
  go_wp2_with fail
  refine (zoneGapS_any _ _ _ _ _ _ _ _ _ _ _ _ _ _ _ _ _ y.a y.b y.c y.d hfl.out).mono ?_; rintro e w6 ⟨rfl, d6⟩
  have B6 := below_to B5 d6
  clear y d6
  -- the program's own copies
  go_wp2_with fail
  refine (toIntS_any _ _ _ _ _ (h.up B6).a (by omega)).mono ?_; rintro e w7 ⟨rfl, o1, d7⟩
  have B7 := below_to B6 d7
  go_wp2_with fail
  refine (toTaskSS_any _ _ _ _ _ (h.up B7).b Hre.out).mono ?_; rintro e w8 ⟨rfl, o2, d8⟩
  have B8 := below_to B7 d8
  go_wp2_with fail
  refine (toIntS_any _ _ _ _ _ (h.up B8).c (by omega)).mono ?_; rintro e w9 ⟨rfl, o3, d9⟩
  have B9 := below_to B8 d9
  go_wp2_with fail
  refine (toIntS_any _ _ _ _ _ (h.up B9).d (by omega)).mono ?_; rintro e w10 ⟨rfl, o4, d10⟩
  have B10 := below_to B9 d10
  have x : R4 w10 _ _ _ _ n1 n2 n3 n4 room bs zones ids := ⟨((o1.rd' l1.out b1).up (below_to (below_to d8 d9) d10)), (o2.rd' l2.out b2).up (below_to d9 d10), (o3.rd' l3.out b3).up d10, o4.rd' l4.out b4⟩
  clear o1 o2 o3 o4 d7 d8 d9 d10
  go_wp2_with fail
  refine (zoneGapI_any _ _ _ _ _ _ _ _ _ _ _ _ _ _ _ _ _ x.a x.b x.c x.d hfl.out).mono ?_; rintro e w11 ⟨rfl, d11⟩
  have B11 := below_to B10 d11
  have x11 := x.up d11
  clear x d11
  -- the arguments are as they were
  go_wp2_with fail
  refine (toIntS_any _ _ _ _ _ (h.up B11).a (by omega)).mono ?_; rintro e w12 ⟨rfl, o1, d12⟩
  have B12 := below_to B11 d12
  have x12 := x11.up d12
  go_wp2_with fail
  refine (eqIntS_any _ _ _ _ _ _ _ _ _ x12.a (o1.rd' l1.out b1)).mono ?_; rintro e w13 ⟨rfl, m13, rfl⟩
  have d13 := drew_below w12 m13
  have B13 := below_to B12 d13
  have x13 := x12.up d13
  clear o1 d12 x12 d13 x11
  go_wp2_with fail
  refine (toTaskSS_any _ _ _ _ _ (h.up B13).b Hre.out).mono ?_; rintro e w14 ⟨rfl, o2, d14⟩
  have B14 := below_to B13 d14
  have x14 := x13.up d14
  go_wp2_with fail
  refine (eqTaskSS_any _ _ _ _ _ _ _ x14.b (o2.rd' l2.out b2)).mono ?_; rintro e w15 ⟨rfl, d15⟩
  have B15 := below_to B14 d15
  have x15 := x14.up d15
  clear o2 d14 x14 d15 x13
  go_wp2_with fail
  refine (toIntS_any _ _ _ _ _ (h.up B15).c (by omega)).mono ?_; rintro e w16 ⟨rfl, o3, d16⟩
  have B16 := below_to B15 d16
  have x16 := x15.up d16
  go_wp2_with fail
  refine (eqIntS_any _ _ _ _ _ _ _ _ _ x16.c (o3.rd' l3.out b3)).mono ?_; rintro e w17 ⟨rfl, m17, rfl⟩
  have d17 := drew_below w16 m17
  have B17 := below_to B16 d17
  have x17 := x16.up d17
  clear o3 d16 x16 d17 x15
  go_wp2_with fail
  refine (toIntS_any _ _ _ _ _ (h.up B17).d (by omega)).mono ?_; rintro e w18 ⟨rfl, o4, d18⟩
  have B18 := below_to B17 d18
  have x18 := x17.up d18
  go_wp2_with fail
  refine (eqIntS_any _ _ _ _ _ _ _ _ _ x18.d (o4.rd' l4.out b4)).mono ?_; rintro e w19 ⟨rfl, m19, rfl⟩
  have B19 := below_to B18 (drew_below w18 m19)
  go_wp2
  go_ret
  exact ⟨rfl, B19⟩
end Go.Proofs.Ytgngmjlbeofjkaa
