/- The walk of the law FnExactEvictDo: at every five arguments that can be read it returns true, and what was there stays. -/
import Derived.Test.YtkcflajhmekcaaaGreatEvictDoMark
import Derived.Test.YtkcflajhmekcaaaGreatMix
namespace Go.Proofs.YtkcflajhmekcaaaGreat
open Go Go.RowKit

theorem evKoT {w w' : World} {lo hi B n : Nat} {A : Option Addr} {ts : List Tk} (h : RdT w B A n ts) (k : KeptOut w w' lo hi) (hl : B ≤ lo) (hs : B ≤ w.heap.size) : RdT w' B A n ts :=
  h.keep (fun p hp => World.cell?_of_block (k.block p.block (by omega) (.inl (by omega)))) (Nat.le_refl _)
theorem mkL_short {ts : List Tk} (h : ∀ t ∈ ts, t.2.length ≤ 3) (j : Nat) : ∀ t ∈ mkL 1 ts j, t.2.length ≤ 9223372036854775807 := by
  intro t ht
  obtain ⟨i, hi, rfl⟩ := List.mem_iff_getElem.1 ht
  have hi' : i < ts.length := by rwa [mkL_len] at hi
  have := mkL_at 1 ts j i hi'
  rw [List.getElem?_eq_getElem hi, Option.getD_some] at this
  rw [this]
  have hb := need_getD h i
  split
  · rw [mkT, seqI_len]; omega
  · omega

set_option maxRecDepth 100000 in
set_option maxHeartbeats 3200000 in
theorem exactEvictDo_walk (A1 A2 A3 A4 : Option Addr) (n1 c1 n2 c2 n3 c3 n4 c4 : Nat) (room rk : List Int) (ts : List Tk) (id : Int) (xs : List Int) (r : Int) (w : World) (h : R5 w A1 A2 A3 A4 n1 n2 n3 n4 room ts rk xs) :
    Calls Tryz.prog 5 #[.slice A1 n1 c1, .slice A2 n2 c2, .slice A3 n3 c3, .agg #[.int .i64 id, .slice A4 n4 c4], .int .i64 r] w fun e w' => e = .returned (.bool true) ∧ Below w.heap.size w w' := by
  obtain ⟨L, hL⟩ : ∃ L, evD room ts rk (id, xs) r = L := ⟨_, rfl⟩
  obtain ⟨ob, hob⟩ : ∃ ob, evB room ts rk (id, xs) r = ob := ⟨_, rfl⟩
  have hLl := evD_len room ts rk (id, xs) r
  rw [hL, h.b.len] at hLl
  have HL := Lib.hid hL
  have HOB := Lib.hid hob
  have HLl := Lib.hid hLl
  have hSh := evD_need room ts rk id xs r
  rw [hL] at hSh
  have HSh := Lib.hid hSh
  have HSb := Lib.hid (show ∀ t ∈ L, t.2.length ≤ 9223372036854775807 from fun t ht => by have := hSh t ht; omega)
  clear hL hob hLl hSh
  have l1 := Lib.hid h.a.len
  have l2 := Lib.hid h.b.len
  have l3 := Lib.hid h.c.len
  have l4 := Lib.hid h.d.len
  have b1 := h.a.le
  have b2 := h.b.le
  have b3 := h.c.le
  have b4 := h.d.le
  have B0 := evNewUp w (.cells #[.int .i64 id, .slice A4 n4 c4] 25)
  have hk := Lib.hid (fun w' => box_two 25 w (.int .i64 id) (.slice A4 n4 c4) (w' := w'))
  have sz : (w.alloc (.cells #[.int .i64 id, .slice A4 n4 c4] 25)).heap.size = w.heap.size + 1 := World.size_alloc _ _
  by_cases k1 : 1048576 < n1
  · go_enter Tryz.func5, Tryz.ntmps5
    go_wp2
    go_ret
    exact ⟨rfl, B0⟩
  by_cases k3 : 1048576 < n3
  · go_enter Tryz.func5, Tryz.ntmps5
    go_wp2
    go_ret
    exact ⟨rfl, B0⟩
  go_enter Tryz.func5, Tryz.ntmps5
  go_wp2_with fail
  generalize w.alloc (.cells #[.int .i64 id, .slice A4 n4 c4] 25) = W at B0 hk sz ⊢
  rw [← sz] at hk
  have SZ := Lib.hid sz
  clear sz
  refine (szTaskS_any _ _ _ _ _ _ (h.up B0).b (by omega) (by omega)).mono ?_; rintro e w1 ⟨r1, rfl, hr, d1⟩
  have B1 := below_to B0 d1
  have D1 := Lib.hid d1
  rcases hr with rfl | ⟨hr0, hre⟩
  · go_wp2
    go_ret
    exact ⟨rfl, B1⟩
  have Hre := Lib.hid (show totT ts ≤ 1048576 by omega)
  have hr0' : ¬ r1 < 0 := by omega
  have k2 : n2 ≤ 1048576 := by have := totT_ge ts; have := l2.out; omega
  have hr1 : r1 ≤ 1048576 := by omega
  clear hre d1
  obtain ⟨x0, x1⟩ := hk.out w1 D1.out
  go_wp2_with fail
  refine (szTask_any A4 n4 c4 id r1 w1 hr0 hr1 b4).mono ?_; rintro e w2 ⟨r2, rfl, hr2, d2⟩
  have B2 := below_to B1 d2
  have D2 := Lib.hid (below_to D1.out d2)
  rcases hr2 with rfl | ⟨hr20, hre2⟩
  · go_wp2
    go_ret
    exact ⟨rfl, B2⟩
  have hr20' : ¬ r2 < 0 := by omega
  have k4 : n4 ≤ 1048576 := by omega
  clear hre2 x0 x1 d2 hr0 hr0' hr1
  have K0 := hk.out w2.drew (D2.out.drew)
  -- the reference
  go_wp2_with fail
  refine wp_region_mix (.take 0 (.take 2 (.take 4 (.take 6 (.take 8 (.bar 1 (.bar 3 (.bar 5 (.bar 7 (.bar 9 (.take 10 (.take 11 (.take 12 (.take 13 (.take 14 .nil))))))))))))))) (fun w' => w'.cell? ⟨w.heap.size, 0, none⟩ = some (.int .i64 id) ∧ w'.cell? ⟨w.heap.size, 1, none⟩ = some (.slice A4 n4 c4)) (by kernel_rfl) (by kernel_rfl) K0 (fun _ => ?_)
  clear K0
  have B2' := B2.drew
  have D2' := Lib.hid D2.out.drew
  repeat (first | (refine wpMix_skip (by rfl) (by rfl) ?_; (try simp only [Act.put, List.setIfInBounds_toArray, List.set_cons_zero, List.set_cons_succ])) | (refine wpMix_take (v := ?_) (by rfl) (by rfl) (fun wS hSt => ?_) ?_; rotate_left; (focus ((try dsimp only at hSt); (go_simp <;> with_reducible rfl); done)); (try simp only [Act.put, List.setIfInBounds_toArray, List.set_cons_zero, List.set_cons_succ])))
  (refine wpMix_bar (by rfl) (fun K hK => ?_); go_simp)
  refine (toIntS_any _ _ _ _ _ (h.up B2').a (by omega)).mono ?_; rintro e w3 ⟨rfl, o1, d3⟩
  have B3 := below_to B2' d3
  have D3 := Lib.hid (below_to D2'.out d3)
  ((try dsimp only); refine hK.out _ _ (hk.out _ D3.out) (fun hSw => ?_); (try clear hSw); clear hK K; (try simp only [Act.put, List.setIfInBounds_toArray, List.set_cons_zero, List.set_cons_succ]))
  (refine wpMix_bar (by rfl) (fun K hK => ?_); go_simp)
  refine (toTaskS_any _ _ _ _ _ (h.up B3).b Hre.out).mono ?_; rintro e w4 ⟨rfl, o2, d4⟩
  have B4 := below_to B3 d4
  have D4 := Lib.hid (below_to D3.out d4)
  ((try dsimp only); refine hK.out _ _ (hk.out _ D4.out) (fun hSw => ?_); (try clear hSw); clear hK K; (try simp only [Act.put, List.setIfInBounds_toArray, List.set_cons_zero, List.set_cons_succ]))
  (refine wpMix_bar (by rfl) (fun K hK => ?_); go_simp)
  refine (toIntS_any _ _ _ _ _ (h.up B4).c (by omega)).mono ?_; rintro e w5 ⟨rfl, o3, d5⟩
  have B5 := below_to B4 d5
  have D5 := Lib.hid (below_to D4.out d5)
  ((try dsimp only); refine hK.out _ _ (hk.out _ D5.out) (fun hSw => ?_); (try clear hSw); clear hK K; (try simp only [Act.put, List.setIfInBounds_toArray, List.set_cons_zero, List.set_cons_succ]))
  (refine wpMix_bar (by rfl) (fun K hK => ?_); go_simp)
  refine (toTask_any A4 n4 c4 id xs w5 (h.up B5).d k4).mono ?_; rintro e w6 ⟨g6, rfl, o4, d6⟩
  have B6 := below_to B5 d6
  have D6 := Lib.hid (below_to D5.out d6)
  have y : R5 w6 _ _ _ _ n1 n2 n3 n4 room ts rk xs := ⟨(o1.rd' l1.out b1).up (below_to (below_to d4 d5) d6), (o2.rd' l2.out b2).up (below_to d5 d6), (o3.rd' l3.out b3).up d6, o4.rd' l4.out b4⟩
  ((try dsimp only); refine hK.out _ _ (hk.out _ D6.out) (fun hSw => ?_); (try clear hSw); clear hK K; (try simp only [Act.put, List.setIfInBounds_toArray, List.set_cons_zero, List.set_cons_succ]))
  (refine wpMix_bar (by rfl) (fun K hK => ?_); go_simp)
  refine (evDoS_eq _ _ _ _ _ _ _ _ _ _ _ _ _ _ _ _ _ _ _ y (Nat.le_refl _) (Nat.le_refl _) k2).mono ?_; rintro e w8 ⟨Aw, mw, cw, rfl, hws, d8⟩
  rw [HOB.out]
  rw [HL.out] at hws
  have lw := Lib.hid hws.len
  have W8 := Lib.hid hws
  clear hws
  have B8 := below_to B6 d8
  have D8 := Lib.hid (below_to D6.out d8)
  clear y d8 o1 o2 o3 o4 d3 d4 d5 d6 B2 B3 B4 B5 B6 B2'
  ((try dsimp only); refine hK.out _ _ (hk.out _ D8.out) (fun hSw => ?_); (try clear hSw); clear hK K; (try simp only [Act.put, List.setIfInBounds_toArray, List.set_cons_zero, List.set_cons_succ]))
  repeat (first | (refine wpMix_skip (by rfl) (by rfl) ?_; (try simp only [Act.put, List.setIfInBounds_toArray, List.set_cons_zero, List.set_cons_succ])) | (refine wpMix_take (v := ?_) (by rfl) (by rfl) (fun wS hSt => ?_) ?_; rotate_left; (focus ((try dsimp only at hSt); (go_simp <;> with_reducible rfl); done)); (try simp only [Act.put, List.setIfInBounds_toArray, List.set_cons_zero, List.set_cons_succ])))
  refine wpMix_nil ?_
  -- the program's own copies
  go_wp2_with fail
  refine (toIntS_any _ _ _ _ _ (h.up B8).a (by omega)).mono ?_; rintro e w9 ⟨rfl, o1, d9⟩
  have B9 := below_to B8 d9
  have z9 := d9.size
  have D9 := Lib.hid (below_to D8.out d9)
  go_wp2_with fail
  refine (toTaskS_any _ _ _ _ _ (h.up B9).b Hre.out).mono ?_; rintro e w10 ⟨rfl, o2, d10⟩
  have B10 := below_to B9 d10
  have D10 := Lib.hid (below_to D9.out d10)
  go_wp2_with fail
  refine (toIntS_any _ _ _ _ _ (h.up B10).c (by omega)).mono ?_; rintro e w12 ⟨rfl, o3, d12⟩
  have B12 := below_to B10 d12
  have D12 := Lib.hid (below_to D10.out d12)
  obtain ⟨x0, x1⟩ := hk.out w12 D12.out
  go_wp2_with fail
  refine (toTask_any A4 n4 c4 id xs w12 (h.up B12).d k4).mono ?_; rintro e w13 ⟨g13, rfl, o4, d13⟩
  have B13 := below_to B12 d13
  have D13 := Lib.hid (below_to D12.out d13)
  clear x0 x1
  -- the box of the program's task
  have hq := Lib.hid (fun w' => box_two 33 w13 (.int .i64 id) (.slice (some ⟨g13, 0, none⟩) n4 n4) (w' := w'))
  have sz := World.size_alloc w13 (.cells #[.int .i64 id, .slice (some ⟨g13, 0, none⟩) n4 n4] 33)
  have d14 := evNewUp w13 (.cells #[.int .i64 id, .slice (some ⟨g13, 0, none⟩) n4 n4] 33)
  have E14 := hq.out _ (Below.refl _ _)
  have hbx := Blk.new w13 33 #[.int .i64 id, .slice (some ⟨g13, 0, none⟩) n4 n4]
  obtain ⟨e0, e1⟩ := E14
  go_wp2_with fail
  generalize w13.alloc (.cells #[.int .i64 id, .slice (some ⟨g13, 0, none⟩) n4 n4] 33) = w14 at hq sz d14 e0 e1 hbx ⊢
  rw [← sz] at hq
  have B14 := below_to B13 d14
  have D14 := Lib.hid (below_to D13.out d14)
  have z10 := d10.size
  have z12 := d12.size
  have z13 := d13.size
  have z14 : w13.heap.size < w14.heap.size := by omega
  have s1 : SwI w14 w8.heap.size w14.heap.size w8.heap.size n1 := by
    have := (o1.sw.shp (evShp (below_to (below_to (below_to d10 d12) d13) d14))).more (Nat.le_refl _) (show w9.heap.size ≤ w14.heap.size by omega)
    rwa [l1.out] at this
  have s2 : SwT w14 w8.heap.size w14.heap.size w9.heap.size n2 := by
    have := ((o2.sw (fun j hj => Nat.le_trans (totT_need hj) Hre.out)).shp (evShp (below_to (below_to d12 d13) d14))).more (show w8.heap.size ≤ w9.heap.size by omega) (show w10.heap.size ≤ w14.heap.size by omega)
    rwa [l2.out] at this
  have s3 : SwI w14 w8.heap.size w14.heap.size w10.heap.size n3 := by
    have := (o3.sw.shp (evShp (below_to d13 d14))).more (show w8.heap.size ≤ w10.heap.size by omega) (show w12.heap.size ≤ w14.heap.size by omega)
    rwa [l3.out] at this
  have s4 : SwI w14 w8.heap.size w14.heap.size g13 n4 := by
    have := (o4.sw.shp (evShp d14)).more (show w8.heap.size ≤ w12.heap.size by omega) (show w13.heap.size ≤ w14.heap.size by omega)
    rwa [l4.out] at this
  have s5 := evBoxSw hbx (show w8.heap.size ≤ w13.heap.size by omega) z14 k4 s4
  have W14 := Lib.hid (W8.out.below (below_to (below_to (below_to (below_to d9 d10) d12) d13) d14))
  have x : R5 w14 _ _ _ _ n1 n2 n3 n4 room ts rk xs := ⟨(o1.rd' l1.out b1).up (below_to (below_to (below_to d10 d12) d13) d14), (o2.rd' l2.out b2).up (below_to (below_to d12 d13) d14), (o3.rd' l3.out b3).up (below_to d13 d14), (o4.rd' l4.out b4).up d14⟩
  clear o1 o2 o3 o4 d9 d10 d12 d13 d14 B9 B10 B12 B13 e0 e1 sz s4 hbx W8
  obtain ⟨lo, hlo⟩ : ∃ lo, lo = w8.heap.size := ⟨_, rfl⟩
  obtain ⟨hi, hhi⟩ : ∃ hi, hi = w14.heap.size := ⟨_, rfl⟩
  refine (evDoI_eq _ _ _ _ _ _ _ _ _ _ _ _ _ _ _ _ _ _ _ x (Nat.le_refl _) (Nat.le_refl _) k2).mono ?_; rintro e w15 ⟨Ag, mg, cg, rfl, hog, d15⟩
  rw [HOB.out]
  rw [HL.out] at hog
  obtain rfl : mw = mg := by have := (ownTs_len' hog).1; have := lw.out; omega
  have hm := (ownTs_len' hog).1
  have hmw : mw ≤ 2000000 := by have := HLl.out; have := l2.out; omega
  have Og := Lib.hid hog
  have W15 := Lib.hid (W14.out.below (d15.mono (show w8.heap.size ≤ w14.heap.size by omega)))
  have t1 := s1.shp (evShp d15)
  have t2 := s2.shp (evShp d15)
  have t3 := s3.shp (evShp d15)
  have t5 := s5.shp (evShp d15)
  have z15 := d15.size
  clear hog hm s1 s2 s3 s5 W14
  have B15 := below_to B14 d15
  have D15 := Lib.hid (below_to D14.out d15)
  have Q15 := Lib.hid d15
  have x15 := x.up d15
  clear x d15 B14
  go_wp2_with fail
  refine (eqTaskS_any Ag Aw mw cg cw L w15 (Og.out.rd (by omega) HSb.out) (W15.out.more (show w8.heap.size ≤ w15.heap.size by omega))).mono ?_; rintro e w15' ⟨rfl, dz⟩
  -- the arguments are as they were
  go_wp2_with fail
  have B15' := below_to B15 dz
  have xz := x15.up dz
  refine (toIntS_any _ _ _ _ _ (h.up B15').a (by omega)).mono ?_; rintro e w16 ⟨rfl, o1, d16'⟩
  have d16 := below_to dz d16'
  have B16 := below_to B15 d16
  have x16 := x15.up d16
  go_wp2_with fail
  refine (eqIntS_any _ _ _ _ _ _ _ _ _ x16.a (o1.rd' l1.out b1)).mono ?_; rintro e w17 ⟨rfl, m17, rfl⟩
  have d17 := below_to d16 (drew_below w16 m17)
  have B17 := below_to B15 d17
  have x17 := x15.up d17
  clear o1 d16 x16 B16 d16' B15' xz dz
  go_wp2_with fail
  refine (toTaskS_any _ _ _ _ _ (h.up B17).b Hre.out).mono ?_; rintro e w18 ⟨rfl, o2, d18⟩
  have x18 := x17.up d18
  go_wp2_with fail
  refine (eqTaskS_any _ _ _ _ _ _ _ x18.b (o2.rd' l2.out b2)).mono ?_; rintro e w19 ⟨rfl, d19⟩
  have d19' := below_to (below_to d17 d18) d19
  have B19 := below_to B15 d19'
  have x19 := x15.up d19'
  clear o2 d18 x18 d19 x17 d17 B17
  go_wp2_with fail
  refine (toIntS_any _ _ _ _ _ (h.up B19).c (by omega)).mono ?_; rintro e w20 ⟨rfl, o3, d20⟩
  have x20 := x19.up d20
  go_wp2_with fail
  refine (eqIntS_any _ _ _ _ _ _ _ _ _ x20.c (o3.rd' l3.out b3)).mono ?_; rintro e w21 ⟨rfl, m21, rfl⟩
  have d23 := below_to (below_to d19' d20) (drew_below w20 m21)
  have E23 := Lib.hid d23
  have B23 := Lib.hid (below_to B15 d23)
  have X55 := Lib.hid (x15.up d23).d
  have Q23 := Lib.hid (below_to Q15.out d23)
  have D23 := Lib.hid (below_to D15.out d23)
  have HB15 := Lib.hid B15
  clear o3 d20 x20 x19 d19' B19 B15 x15 d23
  generalize w20.drewN m21 = w23 at B23 X55 Q23 D23 E23 ⊢
  have K0 : ((w23.drew.cell? ⟨w.heap.size, 0, none⟩ = some (.int .i64 id) ∧ w23.drew.cell? ⟨w.heap.size, 1, none⟩ = some (.slice A4 n4 c4)) ∧ w23.drew.cell? ⟨w13.heap.size, 0, none⟩ = some (.int .i64 id) ∧ w23.drew.cell? ⟨w13.heap.size, 1, none⟩ = some (.slice (some ⟨g13, 0, none⟩) n4 n4)) := ⟨hk.out _ D23.out.drew, hq.out _ Q23.out.drew⟩
  go_wp2_with fail
  refine wp_region_mix (.take 0 (.take 1 (.bar 2 (.bar 3 (.take 4 .nil))))) (fun w' => (w'.cell? ⟨w.heap.size, 0, none⟩ = some (.int .i64 id) ∧ w'.cell? ⟨w.heap.size, 1, none⟩ = some (.slice A4 n4 c4)) ∧ w'.cell? ⟨w13.heap.size, 0, none⟩ = some (.int .i64 id) ∧ w'.cell? ⟨w13.heap.size, 1, none⟩ = some (.slice (some ⟨g13, 0, none⟩) n4 n4)) (by kernel_rfl) (by kernel_rfl) K0 (fun _ => ?_)
  clear K0
  repeat (first | (refine wpMix_skip (by rfl) (by rfl) ?_; (try simp only [Act.put, List.setIfInBounds_toArray, List.set_cons_zero, List.set_cons_succ])) | (refine wpMix_take (v := ?_) (by rfl) (by rfl) (fun wS hSt => ?_) ?_; rotate_left; (focus ((try dsimp only at hSt); (go_simp <;> with_reducible rfl); done)); (try simp only [Act.put, List.setIfInBounds_toArray, List.set_cons_zero, List.set_cons_succ])))
  (refine wpMix_bar (by rfl) (fun K hK => ?_); go_simp)
  refine (toTask_any A4 n4 c4 id xs w23.drew (h.up B23.out.drew).d k4).mono ?_; rintro e w24 ⟨g24, rfl, o5, d24⟩
  ((try dsimp only); refine hK.out _ _ (⟨hk.out _ (below_to D23.out.drew d24), hq.out _ (below_to Q23.out.drew d24)⟩) (fun hSw => ?_); (try clear hSw); clear hK K; (try simp only [Act.put, List.setIfInBounds_toArray, List.set_cons_zero, List.set_cons_succ]))
  (refine wpMix_bar (by rfl) (fun K hK => ?_); go_simp)
  refine (eqTask_any _ _ _ _ _ _ _ _ (X55.out.up (below_to (Below.refl _ _).drew d24)) (o5.rd' l4.out b4)).mono ?_; rintro e w25 ⟨rfl, d25⟩
  have E25 := Lib.hid (below_to (below_to E23.out.drew d24) d25)
  ((try dsimp only); refine hK.out _ _ (⟨hk.out _ (below_to (below_to D23.out.drew d24) d25), hq.out _ (below_to (below_to Q23.out.drew d24) d25)⟩) (fun hSw => ?_); (try clear hSw); clear hK K; (try simp only [Act.put, List.setIfInBounds_toArray, List.set_cons_zero, List.set_cons_succ]))
  repeat (first | (refine wpMix_skip (by rfl) (by rfl) ?_; (try simp only [Act.put, List.setIfInBounds_toArray, List.set_cons_zero, List.set_cons_succ])) | (refine wpMix_take (v := ?_) (by rfl) (by rfl) (fun wS hSt => ?_) ?_; rotate_left; (focus ((try dsimp only at hSt); (go_simp <;> with_reducible rfl); done)); (try simp only [Act.put, List.setIfInBounds_toArray, List.set_cons_zero, List.set_cons_succ])))
  refine wpMix_nil ?_
  -- the arguments are written over
  have K := KeptOut.of_below E25.out lo hi
  have P := evShp E25.out
  clear d24 d25 o5 X55 Q23 D23 B23 E23
  obtain ⟨p1, p2, xs1, p3, p4⟩ := t1.shp P
  go_wp2_with fail
  refine (markIntS_any _ n1 _ 3 1 xs1 _ p4 p3 (by omega) (by omega)).mono ?_; rintro e w30 ⟨rfl, hb30, hk30⟩
  have P := P.trans (Shp.of_ints p4 hb30 (by rw [seqI_len, p3]) (fun b hb hne => hk30.block b hb (by omega)))
  have K := K.trans (hk30.mono (lo' := lo) (hi' := hi) (by omega) (by omega))
  clear p1 p2 p3 p4 hb30 hk30
  go_wp2_with fail
  refine (markTaskS_any _ _ _ n2 _ _ _ (t2.shp P) k2 (by omega) (by omega)).mono ?_; rintro e w31 ⟨q2, rfl, hq2, hq3, hs31, hk31⟩
  have P := P.trans hs31
  have K := K.trans (hk31.mono (lo' := lo) (hi' := hi) (by omega) (by omega))
  clear hs31 hk31
  obtain ⟨p1, p2, xs3, p3, p4⟩ := t3.shp P
  go_wp2_with fail
  refine (markIntS_any _ n3 _ 3 q2 xs3 _ p4 p3 (by omega) (by omega)).mono ?_; rintro e w32 ⟨rfl, hb30, hk30⟩
  have P := P.trans (Shp.of_ints p4 hb30 (by rw [seqI_len, p3]) (fun b hb hne => hk30.block b hb (by omega)))
  have K := K.trans (hk30.mono (lo' := lo) (hi' := hi) (by omega) (by omega))
  clear p1 p2 p3 p4 hb30 hk30
  obtain ⟨p1, p2, vs5, p3, p4, p5⟩ := t5.shp P
  obtain ⟨a5, g5, m5, f1, f2, f3, f4, f5, xs5, f6, f7⟩ := p5 0 (by omega)
  have x0 : w32.cell? ⟨w13.heap.size, 0, none⟩ = some (.int .i64 a5) := by rw [p3.cell]; simpa using f1
  have x1 : w32.cell? ⟨w13.heap.size, 1, none⟩ = some (.slice (some ⟨g5, 0, none⟩) m5 m5) := by rw [p3.cell]; simpa using f2
  clear p3 p4 p5 f1 f2
  go_wp2_with fail
  refine (markTask_any g5 m5 m5 a5 (q2 + n3) xs5 w32 f7 f6 (by omega) (by omega)).mono ?_; rintro e w33 ⟨rfl, hk30⟩
  have K := K.trans (hk30.mono (lo' := lo) (hi' := hi) (by omega) (by omega))
  clear p1 p2 f4 f5 f6 f7 hk30 x0 x1 t1 t2 t3 t5 P
  have hneg : ¬ q2 + (n3 : Int) + (m5 : Int) < 0 := by omega
  -- the result is as it was
  have zk := K.size
  have W33 := Lib.hid (evKoT W15.out K (by omega) (by omega))
  have O33 := Lib.hid (Og.out.keep (fun b hb hlt => K.block b hlt (.inr (by omega))))
  have B33 := Lib.hid (KeptOut.below HB15.out K (by have := B8.size; omega))
  have D33 := Lib.hid (KeptOut.below D15.out K (by have := D8.out.size; omega))
  clear K W15 Og HB15 E25
  go_wp2_with fail
  refine (eqTaskS_any Ag Aw mw cg cw L w33 (O33.out.rd (by omega) HSb.out) (W33.out.more (show w8.heap.size ≤ w33.heap.size by omega))).mono ?_; rintro e w34 ⟨rfl, d34⟩
  have z34 := d34.size
  have O34 := Lib.hid (O33.out.below d34)
  have W34 := Lib.hid (W33.out.below (d34.mono (show w8.heap.size ≤ w33.heap.size by omega)))
  have B34 := Lib.hid (below_to B33.out d34)
  have D34 := Lib.hid (below_to D33.out d34)
  clear d34 O33 W33 B33 D33
  go_wp2_with fail
  refine (markTs_any _ Ag mw cg 1 L w34 O34.out (by omega) HSh.out (by omega) (by omega)).mono ?_; rintro e w35 ⟨rfl, ho35, hk35⟩
  have z35 := hk35.size
  have O35 := Lib.hid ho35
  have W35 := Lib.hid (evKoT W34.out hk35 (by omega) (by omega))
  have B35 := Lib.hid (KeptOut.below B34.out hk35 (by have := B8.size; omega))
  have D35 := Lib.hid (KeptOut.below D34.out hk35 (by have := D8.out.size; omega))
  have HSm := Lib.hid (mkL_short HSh.out mw)
  have hp := (posT_bd 1 (need_getD HSh.out) mw).1
  clear ho35 hk35 W34 B34 D34 O34
  go_wp2_with fail
  refine (heldTs_any _ Ag mw cg 1 L w35 (O35.out.rd (by omega) HSm.out) HSh.out (by omega) (by omega) (by omega)).mono ?_; rintro e w36 ⟨rfl, rfl⟩
  have hn1' : ¬ posT 1 L mw < 0 := by omega
  have K0 := hk.out w35.drew (D35.out.drew)
  -- a second call shares nothing with the first
  go_wp2_with fail
  refine wp_region_mix (.take 0 (.take 2 (.take 4 (.take 6 (.take 8 (.bar 1 (.bar 3 (.bar 5 (.bar 7 (.bar 9 (.take 10 (.take 11 (.take 12 (.take 13 (.take 14 .nil))))))))))))))) (fun w' => w'.cell? ⟨w.heap.size, 0, none⟩ = some (.int .i64 id) ∧ w'.cell? ⟨w.heap.size, 1, none⟩ = some (.slice A4 n4 c4)) (by kernel_rfl) (by kernel_rfl) K0 (fun _ => ?_)
  clear K0
  repeat (first | (refine wpMix_skip (by rfl) (by rfl) ?_; (try simp only [Act.put, List.setIfInBounds_toArray, List.set_cons_zero, List.set_cons_succ])) | (refine wpMix_take (v := ?_) (by rfl) (by rfl) (fun wS hSt => ?_) ?_; rotate_left; (focus ((try dsimp only at hSt); (go_simp <;> with_reducible rfl); done)); (try simp only [Act.put, List.setIfInBounds_toArray, List.set_cons_zero, List.set_cons_succ])))
  (refine wpMix_bar (by rfl) (fun K hK => ?_); go_simp)
  refine (toIntS_any _ _ _ _ _ (h.up B35.out.drew).a (by omega)).mono ?_; rintro e u3 ⟨rfl, o1, d3⟩
  have U3 := below_to B35.out.drew d3
  have V3 := Lib.hid (below_to D35.out.drew d3)
  ((try dsimp only); refine hK.out _ _ (hk.out _ V3.out) (fun hSw => ?_); (try clear hSw); clear hK K; (try simp only [Act.put, List.setIfInBounds_toArray, List.set_cons_zero, List.set_cons_succ]))
  (refine wpMix_bar (by rfl) (fun K hK => ?_); go_simp)
  refine (toTaskS_any _ _ _ _ _ (h.up U3).b Hre.out).mono ?_; rintro e u4 ⟨rfl, o2, d4⟩
  have U4 := below_to U3 d4
  have V4 := Lib.hid (below_to V3.out d4)
  ((try dsimp only); refine hK.out _ _ (hk.out _ V4.out) (fun hSw => ?_); (try clear hSw); clear hK K; (try simp only [Act.put, List.setIfInBounds_toArray, List.set_cons_zero, List.set_cons_succ]))
  (refine wpMix_bar (by rfl) (fun K hK => ?_); go_simp)
  refine (toIntS_any _ _ _ _ _ (h.up U4).c (by omega)).mono ?_; rintro e u5 ⟨rfl, o3, d5⟩
  have U5 := below_to U4 d5
  have V5 := Lib.hid (below_to V4.out d5)
  ((try dsimp only); refine hK.out _ _ (hk.out _ V5.out) (fun hSw => ?_); (try clear hSw); clear hK K; (try simp only [Act.put, List.setIfInBounds_toArray, List.set_cons_zero, List.set_cons_succ]))
  (refine wpMix_bar (by rfl) (fun K hK => ?_); go_simp)
  refine (toTask_any A4 n4 c4 id xs u5 (h.up U5).d k4).mono ?_; rintro e u6 ⟨g6, rfl, o4, d6⟩
  have U6 := below_to U5 d6
  have V6 := Lib.hid (below_to V5.out d6)
  have y : R5 u6 _ _ _ _ n1 n2 n3 n4 room ts rk xs := ⟨(o1.rd' l1.out b1).up (below_to (below_to d4 d5) d6), (o2.rd' l2.out b2).up (below_to d5 d6), (o3.rd' l3.out b3).up d6, o4.rd' l4.out b4⟩
  ((try dsimp only); refine hK.out _ _ (hk.out _ V6.out) (fun hSw => ?_); (try clear hSw); clear hK K; (try simp only [Act.put, List.setIfInBounds_toArray, List.set_cons_zero, List.set_cons_succ]))
  (refine wpMix_bar (by rfl) (fun K hK => ?_); go_simp)
  refine (evDoI_eq _ _ _ _ _ _ _ _ _ _ _ _ _ _ _ _ _ _ _ y (Nat.le_refl _) (Nat.le_refl _) k2).mono ?_; rintro e u8 ⟨Ah, mh, ch, rfl, hoh, d8⟩
  rw [HOB.out]
  rw [HL.out] at hoh
  obtain rfl : mw = mh := by have := (ownTs_len' hoh).1; have := lw.out; omega
  have Oh := Lib.hid hoh
  have U8 := Lib.hid (below_to U6 d8)
  have V8 := Lib.hid (below_to V6.out d8)
  have F8 := Lib.hid (show Below w35.heap.size w35 u8 from below_to (below_to (below_to (below_to (below_to (Below.refl _ _).drew d3) d4) d5) d6) d8)
  clear y d8 o1 o2 o3 o4 d3 d4 d5 d6 U3 U4 U5 U6 hoh
  ((try dsimp only); refine hK.out _ _ (hk.out _ V8.out) (fun hSw => ?_); (try clear hSw); clear hK K; (try simp only [Act.put, List.setIfInBounds_toArray, List.set_cons_zero, List.set_cons_succ]))
  repeat (first | (refine wpMix_skip (by rfl) (by rfl) ?_; (try simp only [Act.put, List.setIfInBounds_toArray, List.set_cons_zero, List.set_cons_succ])) | (refine wpMix_take (v := ?_) (by rfl) (by rfl) (fun wS hSt => ?_) ?_; rotate_left; (focus ((try dsimp only at hSt); (go_simp <;> with_reducible rfl); done)); (try simp only [Act.put, List.setIfInBounds_toArray, List.set_cons_zero, List.set_cons_succ])))
  refine wpMix_nil ?_
  go_wp2_with fail
  refine (eqTaskS_any Ah Aw mw ch cw L u8 (Oh.out.rd (by omega) HSb.out) ((W35.out.below (F8.out.mono (show w8.heap.size ≤ w35.heap.size by omega))).more (by have := F8.out.size; omega))).mono ?_; rintro e u9 ⟨rfl, d9⟩
  have O9 := Lib.hid ((O35.out.below F8.out).below d9)
  go_wp2_with fail
  refine (heldTs_any _ Ag mw cg 1 L u9 (O9.out.rd (by omega) HSm.out) HSh.out (by omega) (by omega) (by omega)).mono ?_; rintro e u10 ⟨rfl, rfl⟩
  go_wp2
  go_ret
  exact ⟨rfl, below_to U8.out d9⟩
end Go.Proofs.YtkcflajhmekcaaaGreat
