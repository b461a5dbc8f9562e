/- The walk of the law FnExactZoneCounts. -/
import Derived.Test.YtgngmjlbeofjkaaLawMark
import Derived.Test.YtgngmjlbeofjkaaZoneLaw
namespace Go.Proofs.Ytgngmjlbeofjkaa
open Go.RowKit

set_option maxHeartbeats 400000 in
theorem markNil_any (A : Option Addr) (c : Nat) (k : Int) (w : World) :
    Calls Try.prog 27 #[.slice A 0 c, .int .i64 k] w fun e w' => e = .returned (.int .i64 k) ∧ w = w' := by
  go_enter Try.func27, Try.ntmps27
  go_wp2
  refine wp_loop_rounds 1 ?_
  rw [rounds_succ]
  go_wp2
  go_ret
  exact ⟨rfl, rfl⟩

section
variable {w w' : World} {lo hi B n : Nat} {A : Option Addr} {xs : List Int}
theorem RdI.ko (h : RdI w B A n xs) (k : KeptOut w w' lo hi) (hl : B ≤ lo) (hs : B ≤ w.heap.size) : RdI w' B A n xs :=
  h.keep (fun p hp => World.cell?_of_block (k.block p.block (by omega) (.inl (by omega)))) (Nat.le_refl _)
theorem Blk.ko {g : Nat} {t : TypeId} {cs : Array Value} (h : Blk w g t cs) (k : KeptOut w w' lo hi) (hg : hi ≤ g) : Blk w' g t cs := (k.block g h.lt (.inr hg)).trans h
theorem shp_below (h : Below w.heap.size w w') : Shp w w' := Shp.of_keep (fun b hb => h.block b hb)
end

set_option maxRecDepth 100000 in
set_option maxHeartbeats 6400000 in
theorem exactZoneCounts_walk (A1 A2 A3 A4 : Option Addr) (n1 c1 n2 c2 n3 c3 n4 c4 : Nat) (room zones ids : List Int) (bs : List (List Tk)) (w : World) (h : R4 w A1 A2 A3 A4 n1 n2 n3 n4 room bs zones ids) :
    Calls Try.prog 8 #[.slice A1 n1 c1, .slice A2 n2 c2, .slice A3 n3 c3, .slice A4 n4 c4] w fun e w' => e = .returned (.bool true) ∧ Below w.heap.size w w' := by
  have l1 := Lib.hid h.a.len
  have l2 := Lib.hid h.b.len
  have l3 := Lib.hid h.c.len
  have l4 := Lib.hid h.d.len
  have b1 := h.a.le
  have b2 := h.b.le
  have b3 := h.c.le
  have b4 := h.d.le
  by_cases k1 : 1048576 < n1
  · go_enter Try.func8, Try.ntmps8
    go_wp2
    go_ret
    exact ⟨rfl, Below.refl _ _⟩
  by_cases k3 : 1048576 < n3
  · go_enter Try.func8, Try.ntmps8
    go_wp2
    go_ret
    exact ⟨rfl, Below.refl _ _⟩
  by_cases k4 : 1048576 < n4
  · go_enter Try.func8, Try.ntmps8
    go_wp2
    go_ret
    exact ⟨rfl, Below.refl _ _⟩
  go_enter Try.func8, Try.ntmps8
  go_wp2_with fail
  refine (szTaskSS_any _ _ _ _ _ _ h.b (by omega) (by omega)).mono ?_; rintro e w1 ⟨r, rfl, hr, B1⟩
  rcases hr with rfl | ⟨hr0, hre⟩
  · go_wp2
    go_ret
    exact ⟨rfl, B1⟩
  have Hre := Lib.hid (show totB bs ≤ 1048576 by omega)
  have hr0' : ¬ r < 0 := by omega
  have k2 : n2 ≤ 1048576 := by have := totB_len bs; have := l2.out; omega
  have hfl := Lib.hid (show bs.flatten.length ≤ 1048576 from Nat.le_trans (totB_len bs).2 (by omega))
  clear hre
  -- the reference's own copies
  go_wp2_with fail
  refine (toIntS_any _ _ _ _ _ (h.up B1).a (by omega)).mono ?_; rintro e w2 ⟨rfl, o1, d2⟩
  have B2 := below_to B1 d2
  go_wp2_with fail
  refine (toTaskSS_any _ _ _ _ _ (h.up B2).b Hre.out).mono ?_; rintro e w3 ⟨rfl, o2, d3⟩
  have B3 := below_to B2 d3
  go_wp2_with fail
  refine (toIntS_any _ _ _ _ _ (h.up B3).c (by omega)).mono ?_; rintro e w4 ⟨rfl, o3, d4⟩
  have B4 := below_to B3 d4
  go_wp2_with fail
  refine (toIntS_any _ _ _ _ _ (h.up B4).d (by omega)).mono ?_; rintro e w5 ⟨rfl, o4, d5⟩
  have B5 := below_to B4 d5
  have y : R4 w5 _ _ _ _ n1 n2 n3 n4 room bs zones ids := ⟨((o1.rd' l1.out b1).up (below_to (below_to d3 d4) d5)), (o2.rd' l2.out b2).up (below_to d4 d5), (o3.rd' l3.out b3).up d5, o4.rd' l4.out b4⟩
  clear o1 o2 o3 o4 d2 d3 d4 d5
  have hspec := Lib.hid (zoneCountsS_any _ _ _ _ n1 n1 n2 n2 n3 n3 n4 n4 _ _ _ _ _ y.a y.b y.c y.d hfl.out)
  by_cases hok : zonesOk room bs zones ids = true
  · have Hok := Lib.hid hok
    clear hok
    have hspec' := hspec.out
    simp only [Hok.out, if_true] at hspec'
    go_wp2_with fail
    refine hspec'.mono ?_; rintro e w6 ⟨⟨gs, rfl, hgs, hbs⟩, d6⟩
    have B6 := below_to B5 d6
    clear y d6 hspec hspec' hgs
    obtain ⟨L, hL⟩ : ∃ L, L = countsP bs zones ids := ⟨_, rfl⟩
    have hLl : Hid (L.length = 4) := by rw [hL]; exact countsP_len _ _ _
    have HL := Lib.hid hL
    rw [← hL] at hbs
    have W0 := RdI.of_blk hbs hLl.out (by omega)
    clear hbs hL
    -- the program's own copies
    go_wp2_with fail
    refine (toIntS_any _ _ _ _ _ (h.up B6).a (by omega)).mono ?_; rintro e w7 ⟨rfl, o1, d7⟩
    have B7 := below_to B6 d7
    go_wp2_with fail
    refine (toTaskSS_any _ _ _ _ _ (h.up B7).b Hre.out).mono ?_; rintro e w8 ⟨rfl, o2, d8⟩
    have B8 := below_to B7 d8
    go_wp2_with fail
    refine (toIntS_any _ _ _ _ _ (h.up B8).c (by omega)).mono ?_; rintro e w9 ⟨rfl, o3, d9⟩
    have B9 := below_to B8 d9
    go_wp2_with fail
    refine (toIntS_any _ _ _ _ _ (h.up B9).d (by omega)).mono ?_; rintro e w10 ⟨rfl, o4, d10⟩
    have B10 := below_to B9 d10
    have z6 := B6.size
    have z7 := d7.size
    have z8 := d8.size
    have z9 := d9.size
    have z10 := d10.size
    have x : R4 w10 _ _ _ _ n1 n2 n3 n4 room bs zones ids := ⟨((o1.rd' l1.out b1).up (below_to (below_to d8 d9) d10)), (o2.rd' l2.out b2).up (below_to d9 d10), (o3.rd' l3.out b3).up d10, o4.rd' l4.out b4⟩
    have s1 : SwI w10 w6.heap.size w10.heap.size w6.heap.size n1 := by
      have := (o1.sw.shp (shp_below (below_to (below_to d8 d9) d10))).more (Nat.le_refl _) (show w7.heap.size ≤ w10.heap.size by omega)
      rwa [l1.out] at this
    have s2 : SwB w10 w6.heap.size w10.heap.size w7.heap.size n2 := by
      have := ((o2.sw Hre.out).shp (shp_below (below_to d9 d10))).more (show w6.heap.size ≤ w7.heap.size by omega) (show w8.heap.size ≤ w10.heap.size by omega)
      rwa [l2.out] at this
    have s3 : SwI w10 w6.heap.size w10.heap.size w8.heap.size n3 := by
      have := (o3.sw.shp (shp_below d10)).more (show w6.heap.size ≤ w8.heap.size by omega) (show w9.heap.size ≤ w10.heap.size by omega)
      rwa [l3.out] at this
    have s4 : SwI w10 w6.heap.size w10.heap.size w9.heap.size n4 := by
      have := o4.sw.more (show w6.heap.size ≤ w9.heap.size by omega) (Nat.le_refl _)
      rwa [l4.out] at this
    have W10 := W0.below (below_to (below_to (below_to d7 d8) d9) d10)
    obtain ⟨lo, hlo⟩ : ∃ lo, lo = w6.heap.size := ⟨_, rfl⟩
    obtain ⟨hi, hhi⟩ : ∃ hi, hi = w10.heap.size := ⟨_, rfl⟩
    clear o1 o2 o3 o4 d7 d8 d9 d10 W0
    have himpl := zoneCountsI_any _ _ _ _ n1 n1 n2 n2 n3 n3 n4 n4 _ _ _ _ _ x.a x.b x.c x.d hfl.out
    simp only [Hok.out, if_true] at himpl
    go_wp2_with fail
    refine himpl.mono ?_; rintro e w11 ⟨⟨g0, rfl, hg0, hblk⟩, d11⟩
    rw [← HL.out] at hblk
    have B11 := below_to B10 d11
    have x11 := x.up d11
    have W11 := W10.below (d11.mono (show w6.heap.size ≤ w10.heap.size by omega))
    have t1 := s1.shp (shp_below d11)
    have t2 := s2.shp (shp_below d11)
    have t3 := s3.shp (shp_below d11)
    have t4 := s4.shp (shp_below d11)
    have z11 := d11.size
    clear x d11 himpl s1 s2 s3 s4 W10
    have hgl : g0 < w11.heap.size := hblk.lt
    have Hblk := Lib.hid hblk
    clear hblk
    -- the results agree, the arguments are as they were
    go_wp2_with fail
    refine (eqIntS_any _ _ _ _ _ _ _ _ _ (RdI.of_blk Hblk.out hLl.out (by omega)) W11).mono ?_; rintro e v0 ⟨rfl, m0, rfl⟩
    have D := drew_below w11 m0
    go_wp2_with fail
    refine (toIntS_any _ _ _ _ _ (h.up (below_to B11 D)).a (by omega)).mono ?_; rintro e w12 ⟨rfl, o1, d12⟩
    have D := below_to D d12
    go_wp2_with fail
    refine (eqIntS_any _ _ _ _ _ _ _ _ _ (x11.up D).a (o1.rd' l1.out b1)).mono ?_; rintro e v1 ⟨rfl, m1, rfl⟩
    have D := below_to D (drew_below w12 m1)
    clear o1 d12
    go_wp2_with fail
    refine (toTaskSS_any _ _ _ _ _ (h.up (below_to B11 D)).b Hre.out).mono ?_; rintro e w14 ⟨rfl, o2, d14⟩
    have D := below_to D d14
    go_wp2_with fail
    refine (eqTaskSS_any _ _ _ _ _ _ _ (x11.up D).b (o2.rd' l2.out b2)).mono ?_; rintro e w15 ⟨rfl, d15⟩
    have D := below_to D d15
    clear o2 d14 d15
    go_wp2_with fail
    refine (toIntS_any _ _ _ _ _ (h.up (below_to B11 D)).c (by omega)).mono ?_; rintro e w16 ⟨rfl, o3, d16⟩
    have D := below_to D d16
    go_wp2_with fail
    refine (eqIntS_any _ _ _ _ _ _ _ _ _ (x11.up D).c (o3.rd' l3.out b3)).mono ?_; rintro e v2 ⟨rfl, m2, rfl⟩
    have D := below_to D (drew_below w16 m2)
    clear o3 d16
    go_wp2_with fail
    refine (toIntS_any _ _ _ _ _ (h.up (below_to B11 D)).d (by omega)).mono ?_; rintro e w18 ⟨rfl, o4, d18⟩
    have D := below_to D d18
    go_wp2_with fail
    refine (eqIntS_any _ _ _ _ _ _ _ _ _ (x11.up D).d (o4.rd' l4.out b4)).mono ?_; rintro e v3 ⟨rfl, m3, rfl⟩
    have D := below_to D (drew_below w18 m3)
    clear o4 d18
    have K := KeptOut.of_below D lo hi
    have P := shp_below D
    clear x11
    -- the arguments are written over
    obtain ⟨p1, p2, xs1, p3, p4⟩ := t1.shp P
    go_wp2_with fail
    refine (markIntS_any _ n1 _ 3 1 xs1 _ p4 p3 (by omega) (by omega)).mono ?_; rintro e w20 ⟨rfl, hb20, hk20⟩
    have P := P.trans (Shp.of_ints p4 hb20 (by rw [seqI_len, p3]) (fun b hb hne => hk20.block b hb (by omega)))
    have K := K.trans (hk20.mono (lo' := lo) (hi' := hi) (by omega) (by omega))
    clear p1 p2 p3 p4 hb20 hk20
    go_wp2_with fail
    refine (markTaskSS_any _ _ _ n2 _ _ _ (t2.shp P) k2 (by omega) (by omega)).mono ?_; rintro e w21 ⟨r2, rfl, hr2, hr3, hs21, hk21⟩
    have P := P.trans hs21
    have K := K.trans (hk21.mono (lo' := lo) (hi' := hi) (by omega) (by omega))
    clear hs21 hk21
    obtain ⟨p1, p2, xs3, p3, p4⟩ := t3.shp P
    go_wp2_with fail
    refine (markIntS_any _ n3 _ 3 r2 xs3 _ p4 p3 (by omega) (by omega)).mono ?_; rintro e w22 ⟨rfl, hb20, hk20⟩
    have P := P.trans (Shp.of_ints p4 hb20 (by rw [seqI_len, p3]) (fun b hb hne => hk20.block b hb (by omega)))
    have K := K.trans (hk20.mono (lo' := lo) (hi' := hi) (by omega) (by omega))
    clear p1 p2 p3 p4 hb20 hk20
    obtain ⟨p1, p2, xs4, p3, p4⟩ := t4.shp P
    go_wp2_with fail
    refine (markIntS_any _ n4 _ 3 (r2 + n3) xs4 _ p4 p3 (by omega) (by omega)).mono ?_; rintro e w23 ⟨rfl, hb20, hk20⟩
    have K := K.trans (hk20.mono (lo' := lo) (hi' := hi) (by omega) (by omega))
    clear p1 p2 p3 p4 hb20 hk20 t1 t2 t3 t4 P
    have hneg : ¬ r2 + (n3 : Int) + (n4 : Int) < 0 := by omega
    -- the result is as it was
    go_wp2_with fail
    refine (eqIntS_any _ _ _ _ _ _ _ _ _ (RdI.of_blk (Hblk.out.ko K (by omega)) hLl.out (by omega)) (W11.ko K (by omega) (by omega))).mono ?_; rintro e v4 ⟨rfl, m4, rfl⟩
    have K := K.trans (KeptOut.of_below (drew_below w23 m4) lo hi)
    go_wp2_with fail
    refine (markIntS_any g0 4 4 _ 1 L _ (Hblk.out.ko K (by omega)) hLl.out (by omega) (by omega)).mono ?_; rintro e w24 ⟨rfl, hb24, hk24⟩
    have K := (K.mono (lo' := lo) (hi' := g0 + 1) (Nat.le_refl _) (by omega)).trans (hk24.mono (lo' := lo) (hi' := g0 + 1) (by omega) (Nat.le_refl _))
    have Hb24 := Lib.hid hb24
    clear hb24 hk24
    go_wp2_with fail
    refine (heldIntS_any _ 4 _ _ 1 _ (RdI.of_blk Hb24.out (seqI_len _ _) (by omega)) (by omega) (by omega)).mono ?_; rintro e w25 ⟨rfl, rfl⟩
    -- a second call shares nothing with the first
    have Bn := KeptOut.below B11 K (by omega)
    have Wn := W11.ko K (by omega) (by omega)
    have zk := K.size
    clear K W11 Hblk D
    go_wp2_with fail
    refine (toIntS_any _ _ _ _ _ (h.up Bn).a (by omega)).mono ?_; rintro e u2 ⟨rfl, o1, d2⟩
    have B2 := below_to Bn d2
    go_wp2_with fail
    refine (toTaskSS_any _ _ _ _ _ (h.up B2).b Hre.out).mono ?_; rintro e u3 ⟨rfl, o2, d3⟩
    have B3 := below_to B2 d3
    go_wp2_with fail
    refine (toIntS_any _ _ _ _ _ (h.up B3).c (by omega)).mono ?_; rintro e u4 ⟨rfl, o3, d4⟩
    have B4 := below_to B3 d4
    go_wp2_with fail
    refine (toIntS_any _ _ _ _ _ (h.up B4).d (by omega)).mono ?_; rintro e u5 ⟨rfl, o4, d5⟩
    have B5 := below_to B4 d5
    have y : R4 u5 _ _ _ _ n1 n2 n3 n4 room bs zones ids := ⟨((o1.rd' l1.out b1).up (below_to (below_to d3 d4) d5)), (o2.rd' l2.out b2).up (below_to d4 d5), (o3.rd' l3.out b3).up d5, o4.rd' l4.out b4⟩
    have D := below_to (below_to (below_to d2 d3) d4) d5
    clear o1 o2 o3 o4 d2 d3 d4 d5
    have himpl := zoneCountsI_any _ _ _ _ n1 n1 n2 n2 n3 n3 n4 n4 _ _ _ _ _ y.a y.b y.c y.d hfl.out
    simp only [Hok.out, if_true] at himpl
    go_wp2_with fail
    refine himpl.mono ?_; rintro e u6 ⟨⟨g1, rfl, hg1, hblk1⟩, d6⟩
    rw [← HL.out] at hblk1
    have B6 := below_to B5 d6
    have D := below_to D d6
    clear y d6 himpl
    go_wp2_with fail
    refine (eqIntS_any _ _ _ _ _ _ _ _ _ (RdI.of_blk hblk1 hLl.out (by omega)) ((Wn.more (show w6.heap.size ≤ w24.heap.size by omega)).up D)).mono ?_; rintro e u7 ⟨rfl, m7, rfl⟩
    have B7 := below_to B6 (drew_below u6 m7)
    have D := below_to D (drew_below u6 m7)
    go_wp2_with fail
    refine (heldIntS_any _ 4 _ _ 1 _ (RdI.of_blk (Hb24.out.below D Hb24.out.lt) (seqI_len _ _) (by omega)) (by omega) (by omega)).mono ?_; rintro e u8 ⟨rfl, rfl⟩
    go_wp2
    go_ret
    exact ⟨rfl, B7⟩
  · have hok : zonesOk room bs zones ids = false := by simpa using hok
    have Hok := Lib.hid hok
    clear hok
    have hspec' := hspec.out
    simp only [Hok.out, Bool.false_eq_true, if_false] at hspec'
    go_wp2_with fail
    refine hspec'.mono ?_; rintro e w6 ⟨⟨As, cs, rfl⟩, d6⟩
    have B6 := below_to B5 d6
    clear y d6 hspec hspec'
    -- the program's own copies
    go_wp2_with fail
    refine (toIntS_any _ _ _ _ _ (h.up B6).a (by omega)).mono ?_; rintro e w7 ⟨rfl, o1, d7⟩
    have B7 := below_to B6 d7
    go_wp2_with fail
    refine (toTaskSS_any _ _ _ _ _ (h.up B7).b Hre.out).mono ?_; rintro e w8 ⟨rfl, o2, d8⟩
    have B8 := below_to B7 d8
    go_wp2_with fail
    refine (toIntS_any _ _ _ _ _ (h.up B8).c (by omega)).mono ?_; rintro e w9 ⟨rfl, o3, d9⟩
    have B9 := below_to B8 d9
    go_wp2_with fail
    refine (toIntS_any _ _ _ _ _ (h.up B9).d (by omega)).mono ?_; rintro e w10 ⟨rfl, o4, d10⟩
    have B10 := below_to B9 d10
    have z6 := B6.size
    have z7 := d7.size
    have z8 := d8.size
    have z9 := d9.size
    have z10 := d10.size
    have x : R4 w10 _ _ _ _ n1 n2 n3 n4 room bs zones ids := ⟨((o1.rd' l1.out b1).up (below_to (below_to d8 d9) d10)), (o2.rd' l2.out b2).up (below_to d9 d10), (o3.rd' l3.out b3).up d10, o4.rd' l4.out b4⟩
    have s1 : SwI w10 w6.heap.size w10.heap.size w6.heap.size n1 := by
      have := (o1.sw.shp (shp_below (below_to (below_to d8 d9) d10))).more (Nat.le_refl _) (show w7.heap.size ≤ w10.heap.size by omega)
      rwa [l1.out] at this
    have s2 : SwB w10 w6.heap.size w10.heap.size w7.heap.size n2 := by
      have := ((o2.sw Hre.out).shp (shp_below (below_to d9 d10))).more (show w6.heap.size ≤ w7.heap.size by omega) (show w8.heap.size ≤ w10.heap.size by omega)
      rwa [l2.out] at this
    have s3 : SwI w10 w6.heap.size w10.heap.size w8.heap.size n3 := by
      have := (o3.sw.shp (shp_below d10)).more (show w6.heap.size ≤ w8.heap.size by omega) (show w9.heap.size ≤ w10.heap.size by omega)
      rwa [l3.out] at this
    have s4 : SwI w10 w6.heap.size w10.heap.size w9.heap.size n4 := by
      have := o4.sw.more (show w6.heap.size ≤ w9.heap.size by omega) (Nat.le_refl _)
      rwa [l4.out] at this
    obtain ⟨lo, hlo⟩ : ∃ lo, lo = w6.heap.size := ⟨_, rfl⟩
    obtain ⟨hi, hhi⟩ : ∃ hi, hi = w10.heap.size := ⟨_, rfl⟩
    clear o1 o2 o3 o4 d7 d8 d9 d10
    have himpl := zoneCountsI_any _ _ _ _ n1 n1 n2 n2 n3 n3 n4 n4 _ _ _ _ _ x.a x.b x.c x.d hfl.out
    simp only [Hok.out, Bool.false_eq_true, if_false] at himpl
    go_wp2_with fail
    refine himpl.mono ?_; rintro e w11 ⟨⟨A0, c0, rfl⟩, d11⟩
    have B11 := below_to B10 d11
    have x11 := x.up d11
    have t1 := s1.shp (shp_below d11)
    have t2 := s2.shp (shp_below d11)
    have t3 := s3.shp (shp_below d11)
    have t4 := s4.shp (shp_below d11)
    have z11 := d11.size
    clear x d11 himpl s1 s2 s3 s4
    -- the results agree, the arguments are as they were
    go_wp2_with fail
    refine (eqIntS_any _ _ _ _ _ 0 0 [] _ RdI.nil RdI.nil).mono ?_; rintro e v0 ⟨rfl, m0, rfl⟩
    have D := drew_below w11 m0
    go_wp2_with fail
    refine (toIntS_any _ _ _ _ _ (h.up (below_to B11 D)).a (by omega)).mono ?_; rintro e w12 ⟨rfl, o1, d12⟩
    have D := below_to D d12
    go_wp2_with fail
    refine (eqIntS_any _ _ _ _ _ _ _ _ _ (x11.up D).a (o1.rd' l1.out b1)).mono ?_; rintro e v1 ⟨rfl, m1, rfl⟩
    have D := below_to D (drew_below w12 m1)
    clear o1 d12
    go_wp2_with fail
    refine (toTaskSS_any _ _ _ _ _ (h.up (below_to B11 D)).b Hre.out).mono ?_; rintro e w14 ⟨rfl, o2, d14⟩
    have D := below_to D d14
    go_wp2_with fail
    refine (eqTaskSS_any _ _ _ _ _ _ _ (x11.up D).b (o2.rd' l2.out b2)).mono ?_; rintro e w15 ⟨rfl, d15⟩
    have D := below_to D d15
    clear o2 d14 d15
    go_wp2_with fail
    refine (toIntS_any _ _ _ _ _ (h.up (below_to B11 D)).c (by omega)).mono ?_; rintro e w16 ⟨rfl, o3, d16⟩
    have D := below_to D d16
    go_wp2_with fail
    refine (eqIntS_any _ _ _ _ _ _ _ _ _ (x11.up D).c (o3.rd' l3.out b3)).mono ?_; rintro e v2 ⟨rfl, m2, rfl⟩
    have D := below_to D (drew_below w16 m2)
    clear o3 d16
    go_wp2_with fail
    refine (toIntS_any _ _ _ _ _ (h.up (below_to B11 D)).d (by omega)).mono ?_; rintro e w18 ⟨rfl, o4, d18⟩
    have D := below_to D d18
    go_wp2_with fail
    refine (eqIntS_any _ _ _ _ _ _ _ _ _ (x11.up D).d (o4.rd' l4.out b4)).mono ?_; rintro e v3 ⟨rfl, m3, rfl⟩
    have D := below_to D (drew_below w18 m3)
    clear o4 d18
    have K := KeptOut.of_below D lo hi
    have P := shp_below D
    clear x11
    -- the arguments are written over
    obtain ⟨p1, p2, xs1, p3, p4⟩ := t1.shp P
    go_wp2_with fail
    refine (markIntS_any _ n1 _ 3 1 xs1 _ p4 p3 (by omega) (by omega)).mono ?_; rintro e w20 ⟨rfl, hb20, hk20⟩
    have P := P.trans (Shp.of_ints p4 hb20 (by rw [seqI_len, p3]) (fun b hb hne => hk20.block b hb (by omega)))
    have K := K.trans (hk20.mono (lo' := lo) (hi' := hi) (by omega) (by omega))
    clear p1 p2 p3 p4 hb20 hk20
    go_wp2_with fail
    refine (markTaskSS_any _ _ _ n2 _ _ _ (t2.shp P) k2 (by omega) (by omega)).mono ?_; rintro e w21 ⟨r2, rfl, hr2, hr3, hs21, hk21⟩
    have P := P.trans hs21
    have K := K.trans (hk21.mono (lo' := lo) (hi' := hi) (by omega) (by omega))
    clear hs21 hk21
    obtain ⟨p1, p2, xs3, p3, p4⟩ := t3.shp P
    go_wp2_with fail
    refine (markIntS_any _ n3 _ 3 r2 xs3 _ p4 p3 (by omega) (by omega)).mono ?_; rintro e w22 ⟨rfl, hb20, hk20⟩
    have P := P.trans (Shp.of_ints p4 hb20 (by rw [seqI_len, p3]) (fun b hb hne => hk20.block b hb (by omega)))
    have K := K.trans (hk20.mono (lo' := lo) (hi' := hi) (by omega) (by omega))
    clear p1 p2 p3 p4 hb20 hk20
    obtain ⟨p1, p2, xs4, p3, p4⟩ := t4.shp P
    go_wp2_with fail
    refine (markIntS_any _ n4 _ 3 (r2 + n3) xs4 _ p4 p3 (by omega) (by omega)).mono ?_; rintro e w23 ⟨rfl, hb20, hk20⟩
    have K := K.trans (hk20.mono (lo' := lo) (hi' := hi) (by omega) (by omega))
    clear p1 p2 p3 p4 hb20 hk20 t1 t2 t3 t4 P
    have hneg : ¬ r2 + (n3 : Int) + (n4 : Int) < 0 := by omega
    -- the result is as it was
    go_wp2_with fail
    refine (eqIntS_any _ _ _ _ _ 0 0 [] _ RdI.nil RdI.nil).mono ?_; rintro e v4 ⟨rfl, m4, rfl⟩
    have K := K.trans (KeptOut.of_below (drew_below w23 m4) lo hi)
    go_wp2_with fail
    refine (markNil_any _ _ 1 _).mono ?_; rintro e w24 ⟨rfl, rfl⟩
    go_wp2_with fail
    refine (heldIntS_any _ 0 _ 0 1 _ RdI.nil (by omega) (by omega)).mono ?_; rintro e w25 ⟨rfl, rfl⟩
    have Bn := KeptOut.below B11 K (by omega)
    clear K D
    go_wp2_with fail
    refine (toIntS_any _ _ _ _ _ (h.up Bn).a (by omega)).mono ?_; rintro e u2 ⟨rfl, o1, d2⟩
    have B2 := below_to Bn d2
    go_wp2_with fail
    refine (toTaskSS_any _ _ _ _ _ (h.up B2).b Hre.out).mono ?_; rintro e u3 ⟨rfl, o2, d3⟩
    have B3 := below_to B2 d3
    go_wp2_with fail
    refine (toIntS_any _ _ _ _ _ (h.up B3).c (by omega)).mono ?_; rintro e u4 ⟨rfl, o3, d4⟩
    have B4 := below_to B3 d4
    go_wp2_with fail
    refine (toIntS_any _ _ _ _ _ (h.up B4).d (by omega)).mono ?_; rintro e u5 ⟨rfl, o4, d5⟩
    have B5 := below_to B4 d5
    have y : R4 u5 _ _ _ _ n1 n2 n3 n4 room bs zones ids := ⟨((o1.rd' l1.out b1).up (below_to (below_to d3 d4) d5)), (o2.rd' l2.out b2).up (below_to d4 d5), (o3.rd' l3.out b3).up d5, o4.rd' l4.out b4⟩
    clear o1 o2 o3 o4 d2 d3 d4 d5
    have himpl := zoneCountsI_any _ _ _ _ n1 n1 n2 n2 n3 n3 n4 n4 _ _ _ _ _ y.a y.b y.c y.d hfl.out
    simp only [Hok.out, Bool.false_eq_true, if_false] at himpl
    go_wp2_with fail
    refine himpl.mono ?_; rintro e u6 ⟨⟨A5, c5, rfl⟩, d6⟩
    have B6 := below_to B5 d6
    clear y d6 himpl
    go_wp2_with fail
    refine (eqIntS_any _ _ _ _ _ 0 0 [] _ RdI.nil RdI.nil).mono ?_; rintro e u7 ⟨rfl, m7, rfl⟩
    have B7 := below_to B6 (drew_below u6 m7)
    go_wp2_with fail
    refine (heldIntS_any _ 0 _ 0 1 _ RdI.nil (by omega) (by omega)).mono ?_; rintro e u8 ⟨rfl, rfl⟩
    go_wp2
    go_ret
    exact ⟨rfl, B7⟩
end Go.Proofs.Ytgngmjlbeofjkaa
