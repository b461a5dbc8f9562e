/- Walk: the draw of the laws on ZoneAt. -/
import Derived.Test.YtgngmjlbeofjkaaDrawNew
namespace Go.Proofs.Ytgngmjlbeofjkaa
open Go Go.RowKit
attribute [local go_sem ↓] Go.wp_at_zero Go.wp_at_succ

theorem RdU.up {w w' : World} {A : Option Addr} {n : Nat} (h : RdU w w.heap.size A n) (hb : Below w.heap.size w w') : RdU w' w'.heap.size A n := fun hn => by
  obtain ⟨b, o, e, hl, hc⟩ := h hn
  refine ⟨b, o, e, by have := hb.size; omega, fun j hj => ?_⟩
  obtain ⟨u, h1, h2, h3⟩ := hc j hj
  exact ⟨u, h1, h2, (hb.cell (p := ⟨b, o + j, none⟩) hl).trans h3⟩

set_option maxRecDepth 100000 in
set_option maxHeartbeats 1600000 in
theorem drawZoneAt_any (A : Option Addr) (n c : Nat) (w : World) (h : RdU w w.heap.size A n) (hc : n ≤ c) (hcm : c ≤ 9223372036854775807) :
    Calls Try.prog 35 #[.slice A n c] w fun e w' => ∃ A1 A2 A3 A4 A5 n2 n3 n4 c2 c3 c4 room bs zones ids id xs, e = .returned (.tuple #[.slice A1 3 3, .slice A2 n2 c2, .slice A3 n3 c3, .slice A4 n4 c4, .agg #[.int .i64 id, .slice A5 3 3]]) ∧
      Drew4 w' A1 A2 A3 A4 3 n2 n3 n4 room bs zones ids ∧ RdI w' w'.heap.size A5 3 xs ∧ n2 ≤ 5 ∧ Below w.heap.size w w' := by
  have B0 := alloc_up w (.cells #[.int .i64 0, .slice none 0 0] 46)
  have hsz := World.size_alloc w (.cells #[.int .i64 0, .slice none 0 0] 46)
  have P0 := Lib.hid (Blk.new w 46 #[.int .i64 0, .slice none 0 0])
  go_enter Try.func35, Try.ntmps35
  go_wp2_with fail
  generalize w.alloc (.cells #[.int .i64 0, .slice none 0 0] 46) = w0 at B0 P0 hsz ⊢
  have lt0 : w.heap.size < w0.heap.size := P0.out.lt
  have HB0 := Lib.hid B0
  have sz0 := Lib.hid (show w0.heap.size = w.heap.size + 1 from hsz)
  clear hsz
  refine (l6Open_any A n c w0 (h.up B0) hc hcm).mono ?_; rintro e w1 ⟨rfl, R1, d1⟩
  have HB1 := Lib.hid (below_to B0 d1)
  have HP1 := Lib.hid (P0.out.below d1 P0.out.lt)
  have HR1 := Lib.hid R1
  have lg := R1.lt
  clear d1 B0 R1
  go_wp2_with fail
  refine (l91New_any w0.heap.size 0 w1 HR1.out (by omega)).mono ?_; rintro e w2 ⟨rb, n2, c2, A2, xs, vs, id, bx, ys, rfl, hD, hn2, hI, hl3, hbd, O2, q2, hq2, R2⟩
  have HD2 := Lib.hid hD
  have HI2 := Lib.hid hI
  have HR2 := Lib.hid R2
  have HO2 := Lib.hid O2
  have HP2 := Lib.hid (O2.blk HP1.out (by omega))
  have lg2 := R2.lt
  have s2 := O2.size
  clear hD hI O2 R2
  have P3 := Blk.new w2 46 #[.int .i64 id, .slice (some ⟨bx, 0, none⟩) 3 3]
  have B3 := alloc_up w2 (.cells #[.int .i64 id, .slice (some ⟨bx, 0, none⟩) 3 3] 46)
  have sz3 := World.size_alloc w2 (.cells #[.int .i64 id, .slice (some ⟨bx, 0, none⟩) 3 3] 46)
  go_wp2_with fail
  generalize w2.alloc (.cells #[.int .i64 id, .slice (some ⟨bx, 0, none⟩) 3 3] 46) = w3 at P3 B3 sz3 ⊢
  have O3 := OnlyG.of_below (g := w0.heap.size) B3
  have HR3 := Lib.hid (HR2.out.below B3)
  have HD3 := Lib.hid (HD2.out.only O3 lg)
  have HI3 := Lib.hid (show OwI w3 w1.heap.size bx ys from ⟨HI2.out.1, O3.blk HI2.out.2 (by have := HI2.out.1; omega)⟩)
  have HO3 := Lib.hid (HO2.out.trans O3)
  have HP3 := Lib.hid (O3.blk HP2.out (by omega))
  have Q3 := Lib.hid P3
  have SZ3 := Lib.hid sz3
  clear O3 B3 P3 sz3
  refine (l92Zones_any w0.heap.size q2 n2 c2 A2 w3 HR3.out (by omega) (by omega) (fun w' o => (HD3.out.only o lg).read hn2)).mono ?_; rintro e w4 ⟨A3, n3, c3, zs, A4, n4, c4, is, rfl, hZ, hIs, hn3, hn4, O4, q4, hq4, R4⟩
  have hD4 := HD3.out.only O4 lg
  have HD4 := Lib.hid hD4
  have HZ := Lib.hid hZ
  have HIs := Lib.hid hIs
  have HI4 := Lib.hid (show OwI w4 w1.heap.size bx ys from ⟨HI3.out.1, O4.blk HI3.out.2 (by have := HI3.out.1; omega)⟩)
  have HP4 := Lib.hid (O4.blk HP3.out (by omega))
  have HQ4 := Lib.hid (O4.blk Q3.out (by omega))
  have HO4 := Lib.hid (HO3.out.trans O4)
  have s4 := O4.size
  have x0 : w4.cell? ⟨w2.heap.size, 0, none⟩ = some (.int .i64 id) := HQ4.out.cell 0
  have x1 : w4.cell? ⟨w2.heap.size, 1, none⟩ = some (.slice (some ⟨bx, 0, none⟩) 3 3) := HQ4.out.cell 1
  have y0 : w4.cell? ⟨w.heap.size, 0, none⟩ = some (.int .i64 0) := HP4.out.cell 0
  have y1 : w4.cell? ⟨w.heap.size, 1, none⟩ = some (.slice none 0 0) := HP4.out.cell 1
  have f0 : w4.frozen? ⟨w.heap.size, 0, none⟩ = false := HP4.out.frozen 0
  have f1 : w4.frozen? ⟨w.heap.size, 1, none⟩ = false := HP4.out.frozen 1
  have ltW : w.heap.size < w4.heap.size := HP4.out.lt
  have szz := sz0.out
  have sz3 := SZ3.out
  have ne1 : w2.heap.size ≠ w.heap.size := by omega
  have lbx : bx < w2.heap.size := HI2.out.2.lt
  clear hD4 hZ hIs O4 R4
  go_wp2_with fail
  refine wp_region_mix (.take 0 (.take 1 (.take 2 (.take 3 (.take 4 (.take 5 (.take 6 (.take 7 (.take 8 (.bar 9 .nil)))))))))) (fun w' => w'.cell? ⟨w2.heap.size, 0, none⟩ = some (.int .i64 id) ∧ w'.cell? ⟨w2.heap.size, 1, none⟩ = some (.slice (some ⟨bx, 0, none⟩) 3 3)) (by kernel_rfl) (by kernel_rfl) ⟨x0, x1⟩ (fun _ => ?_)
  repeat (first | (refine wpMix_skip (by rfl) (by rfl) ?_; (try simp only [Act.put, List.setIfInBounds_toArray, List.set_cons_zero, List.set_cons_succ])) | (refine wpMix_take (v := ?_) (by rfl) (by rfl) (fun wS hSt => ?_) ?_; rotate_left; (focus ((try dsimp only at hSt); (go_simp <;> with_reducible rfl); done)); (try simp only [Act.put, List.setIfInBounds_toArray, List.set_cons_zero, List.set_cons_succ])))
  (refine wpMix_bar (by rfl) (fun K hK => ?_); go_simp)
  have EP := (HQ4.out.far (p := ⟨w.heap.size, 0, none⟩) ne1 (.int .i64 id)).far (p := ⟨w.heap.size, 1, none⟩) ne1 (.slice (some ⟨bx, 0, none⟩) 3 3)
  ((try dsimp only); refine hK.out _ _ (⟨EP.cell 0, EP.cell 1⟩) (fun hSw => ?_); (try clear hSw); clear hK K; (try simp only [Act.put, List.setIfInBounds_toArray, List.set_cons_zero, List.set_cons_succ]))
  refine wpMix_nil ?_
  have EQ := (HP4.out.set_ 0 (.int .i64 id)).set_ 1 (.slice (some ⟨bx, 0, none⟩) 3 3)
  obtain ⟨W, hW⟩ : ∃ W, W = ((w4.setCell ⟨w.heap.size, 0, none⟩ (.int .i64 id)).setCell ⟨w.heap.size, 1, none⟩ (.slice (some ⟨bx, 0, none⟩) 3 3)).drew := ⟨_, rfl⟩
  have kk : ∀ b, b ≠ w.heap.size → W.heap[b]? = w4.heap[b]? := fun b hb => by rw [hW]; exact (Below.heap_setCell _ _ _ b hb).trans (Below.heap_setCell _ _ _ b hb)
  have z0 : W.cell? ⟨w.heap.size, 0, none⟩ = some (.int .i64 id) := by rw [hW]; exact EQ.cell 0
  have z1 : W.cell? ⟨w.heap.size, 1, none⟩ = some (.slice (some ⟨bx, 0, none⟩) 3 3) := by rw [hW]; exact EQ.cell 1
  have hB := Lib.hid (show Below w.heap.size w W from by
    rw [hW]
    exact (((HO4.out.to_below HB1.out (by omega)).setCell (p := ⟨w.heap.size, 0, none⟩) (Nat.le_refl _) _).setCell (p := ⟨w.heap.size, 1, none⟩) (Nat.le_refl _) _).drew)
  have hDW := HD4.out.base (w0 := w1) (W' := W) (Nat.le_refl _) (fun b hb => kk b (by omega))
  have hZW : OwnI W w3.heap.size A3 n3 c3 zs := HZ.out.keep (fun b hb => kk b (by have := (World.ownsRow.lt HZ.out b hb).1; omega))
  have hIW : OwnI W w3.heap.size A4 n4 c4 is := HIs.out.keep (fun b hb => kk b (by have := (World.ownsRow.lt HIs.out b hb).1; omega))
  have hXW : OwI W w1.heap.size bx ys := ⟨HI4.out.1, (kk bx (by have := HI4.out.1; omega)).trans HI4.out.2⟩
  obtain ⟨bs, hbs, hbl⟩ := hDW.read hn2
  have res := Lib.hid (show Drew4 W (some ⟨rb, 0, none⟩) A2 A3 A4 3 n2 n3 n4 xs bs zs is from ⟨⟨hDW.room.rd' hDW.len (by omega), hbs, hZW.rd (by omega), hIW.rd (by omega)⟩, hbl, by omega, hn3, hn4⟩)
  have resx := Lib.hid (hXW.rd' hl3 (by omega))
  clear EP EQ kk x0 x1 y0 y1 f0 f1 hDW hZW hIW hXW hbs
  rw [← hW]
  clear hW
  go_wp2
  refine bodyPost_ret (v := .tuple #[.slice (some ⟨rb, 0, none⟩) 3 3, .slice A2 n2 c2, .slice A3 n3 c3, .slice A4 n4 c4, .agg #[.int .i64 id, .slice (some ⟨bx, 0, none⟩) 3 3]]) (by simp [results, Try.results35, go_sem, z0, z1]) rfl
    ⟨_, A2, A3, A4, _, n2, n3, n4, c2, c3, c4, xs, bs, zs, is, id, ys, rfl, res.out, resx.out, hn2, hB.out⟩
end Go.Proofs.Ytgngmjlbeofjkaa
