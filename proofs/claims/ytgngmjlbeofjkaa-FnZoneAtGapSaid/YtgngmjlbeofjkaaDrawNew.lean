/- Walks: the draws of a task's number and of a further task. -/
import Derived.Test.YtgngmjlbeofjkaaDrawCounts
import Derived.Test.YtgngmjlbeofjkaaMix
namespace Go.Proofs.Ytgngmjlbeofjkaa
open Go Go.RowKit
attribute [local go_sem ↓] Go.wp_at_zero Go.wp_at_succ

theorem TkN.low {w : World} {lo lo' k : Nat} {vs : List Value} (h : TkN w lo k vs) (hl : lo' ≤ lo) : TkN w lo' k vs :=
  ⟨h.1, fun j hj => by obtain ⟨id, b, xs, h1, h2, h3, h4, h5⟩ := h.2 j hj; exact ⟨id, b, xs, h1, h2, ⟨by have := h3.1; omega, h3.2⟩, h4, h5⟩⟩
theorem BinsN.low {w : World} {lo lo' lo2 k M : Nat} {vs : List Value} (h : BinsN w lo lo2 k M vs) (hl : lo' ≤ lo) : BinsN w lo' lo2 k M vs :=
  ⟨h.1, fun j hj => by obtain ⟨A, m, c, ws, e1, e2, e3, e4⟩ := h.2.1 j hj; exact ⟨A, m, c, ws, e1, e2, e3, e4.low hl⟩, h.2.2⟩
theorem Drawn.base {w0 w1 W W' : World} {rb n M c : Nat} {A : Option Addr} {xs : List Int} {vs : List Value} (h : Drawn w1 W rb n M c A xs vs) (hb : w0.heap.size ≤ w1.heap.size) (kk : ∀ b, w1.heap.size ≤ b → W'.heap[b]? = W.heap[b]?) : Drawn w0 W' rb n M c A xs vs :=
  ⟨⟨by have := h.room.1; omega, (kk _ h.room.1).trans h.room.2⟩, h.len, own_mono (own_keep h.out (fun b hb => kk b (h.out.lt b hb).1)) hb,
    ((h.bins.keep (w' := W') (fun v m xs b hw hv => kk b (hw.lt b hv).1) (fun b cs hb hc => (kk b hb).trans hc)).low hb).lower hb⟩

set_option maxRecDepth 100000 in
set_option maxHeartbeats 1600000 in
theorem l91Id_any (g p n c0 : Nat) (A0 : Option Addr) (w : World) (h : Rdr w g p) (hp : p ≤ 600000) (hb : ∃ bs, RdB w w.heap.size A0 n bs ∧ bs.flatten.length ≤ 1000) :
    Calls Try.prog 82 #[.pointer (some ⟨g, 0, none⟩), .slice A0 n c0] w fun e w' => ∃ id : Int, e = .returned (.int .i64 id) ∧ OnlyG w w' g ∧ ∃ q, q ≤ p + 2 ∧ Rdr w' g q := by
  obtain ⟨bs, hbs, hbl⟩ := hb
  have H := Lib.hid h
  clear h
  go_enter Try.func82, Try.ntmps82
  go_wp2_with fail
  refine (l2All_own A0 n c0 bs _ hbs (by omega)).mono ?_; rintro e w2 ⟨A2, m, c2, avs, rfl, hm1, hall, hcl, hlen, hbel⟩
  have HR := Lib.hid (H.out.below hbel)
  have HO := Lib.hid ((OnlyG.refl w g).below hbel)
  have lg := H.out.lt
  have lz := hbel.size
  have hm9 : m ≤ 1000 := by omega
  by_cases hm0 : m = 0
  · subst hm0
    clear hall hcl hlen hbel hbs
    go_wp2_with fail
    refine (pick_at 42 HR.out rfl (by omega) (by omega) (by omega)).mono ?_; rintro e w3 ⟨r3, rfl, hr3, R3, O3⟩
    have HR3 := Lib.hid R3
    have HO3 := Lib.hid (HO.out.trans O3)
    clear R3 O3
    go_wp2
    go_ret
    exact ⟨_, rfl, HO3.out, _, by omega, HR3.out⟩
  · obtain ⟨ga, cura, rfl, hga, hblka⟩ := own_row hall (by omega)
    have hav := Lib.hid (show ∀ j, j < m → ∃ id : Int, avs[j * 2]? = some (.int .i64 id) from fun j hj => by
      obtain ⟨_, _, _, e, _⟩ := hcl.2 j (by omega)
      exact ⟨_, e⟩)
    have Hall := Lib.hid hall
    have k0 : (0 : Int) < (m : Int) := by omega
    clear hall hcl hlen hbel hbs hblka
    go_wp2_with fail
    refine (pick_at 6 HR.out rfl (by omega) (by omega) (by omega)).mono ?_; rintro e w3 ⟨r3, rfl, hr3, R3, O3⟩
    have HR3 := Lib.hid R3
    have HO3 := Lib.hid (HO.out.trans O3)
    have Hall3 := Lib.hid (own_only Hall.out O3 lg)
    clear R3 O3
    by_cases h0 : r3 = 0
    · subst h0
      go_wp2_with fail
      refine (pick_at 42 HR3.out rfl (by omega) (by omega) (by omega)).mono ?_; rintro e w4 ⟨r4, rfl, hr4, R4, O4⟩
      have HR4 := Lib.hid R4
      have HO4 := Lib.hid (HO3.out.trans O4)
      clear R4 O4
      go_wp2
      go_ret
      exact ⟨_, rfl, HO4.out, _, by omega, HR4.out⟩
    · have e0 : (0 : Int) < (r3 : Int) := by omega
      go_wp2_with fail
      refine (pick_at m HR3.out rfl (by omega) (by omega) (by omega)).mono ?_; rintro e w4 ⟨r4, rfl, hr4, R4, O4⟩
      have HR4 := Lib.hid R4
      have HO4 := Lib.hid (HO3.out.trans O4)
      have all4 := own_only Hall3.out O4 lg
      obtain ⟨id, hid⟩ := hav.out r4 hr4
      have x0 : w4.cell? ⟨ga, r4 * 2, none⟩ = some (.int .i64 id) := by have := all4.cells (g := ga) rfl _ _ hid; rwa [addr_add, Nat.zero_add] at this
      have k1 : (0 : Int) ≤ (r4 : Int) := by omega
      have k2 : (r4 : Int) < (m : Int) := by omega
      have k3 : 0 ≤ (r4 : Int) * 2 := by omega
      clear R4 O4 all4 hid
      go_wp2
      go_ret
      exact ⟨_, rfl, HO4.out, _, by omega, HR4.out⟩

set_option maxRecDepth 100000 in
set_option maxHeartbeats 1600000 in
theorem l91New_any (g p : Nat) (w : World) (h : Rdr w g p) (hp : p ≤ 500000) :
    Calls Try.prog 55 #[.pointer (some ⟨g, 0, none⟩)] w fun e w' => ∃ rb n c A xs vs id bx ys, e = .returned (.tuple #[.slice (some ⟨rb, 0, none⟩) 3 3, .slice A n c, .agg #[.int .i64 id, .slice (some ⟨bx, 0, none⟩) 3 3]]) ∧
      Drawn w w' rb n 22 c A xs vs ∧ n ≤ 5 ∧ OwI w' w.heap.size bx ys ∧ ys.length = 3 ∧ Bd 21 ys ∧ OnlyG w w' g ∧ ∃ q, q ≤ p + 1100 ∧ Rdr w' g q := by
  have lg := h.lt
  have B0 := alloc_up w (.cells #[.int .i64 0, .slice none 0 0] 46)
  have R0 := h.below B0
  have sz0 := World.size_alloc w (.cells #[.int .i64 0, .slice none 0 0] 46)
  have P0 := Lib.hid (Blk.new w 46 #[.int .i64 0, .slice none 0 0])
  go_enter Try.func55, Try.ntmps55
  go_wp2_with fail
  generalize w.alloc (.cells #[.int .i64 0, .slice none 0 0] 46) = w0 at B0 R0 sz0 P0 ⊢
  have HB0 := Lib.hid B0
  have SZ0 := Lib.hid sz0
  clear B0 sz0
  refine (l91Bins_any g p w0 R0 (by omega)).mono ?_; rintro e w2 ⟨rb, n, c, A, xs, vs, rfl, hD, hn, O2, q2, hq2, R2⟩
  have HD2 := Lib.hid hD
  have HO2 := Lib.hid O2
  have HR2 := Lib.hid R2
  have lg2 := R2.lt
  clear hD O2 R2 R0
  go_wp2_with fail
  refine (pick_at 10 HR2.out rfl (by omega) (by omega) (by omega)).mono ?_; rintro e w3 ⟨r3, rfl, hr3, R3, O3⟩
  have k3 : IntKind.i64.wrap (30 + (r3 : Int)) = 30 + (r3 : Int) := wr64 (by omega) (by omega)
  have HR3 := Lib.hid R3
  have HO3 := Lib.hid (HO2.out.trans O3)
  have HD3 := Lib.hid (HD2.out.only O3 (by have := SZ0.out; omega))
  clear R3 O3
  go_wp2_with fail
  refine (l91Task_any g _ _ w3 HR3.out (by omega)).mono ?_; rintro e w4 ⟨bx, ys, rfl, hO, hl3, hbd, O4, q4, hq4, R4⟩
  have HR4 := Lib.hid R4
  have HO4 := Lib.hid (HO3.out.trans O4)
  have HD4 := Lib.hid (HD3.out.only O4 (by have := SZ0.out; omega))
  have HI4 := Lib.hid hO
  have s3 := HO3.out.size
  have lg4 := R4.lt
  clear R4 O4 hO k3
  have P4 := Blk.new w4 46 #[.int .i64 (30 + (r3 : Int)), .slice (some ⟨bx, 0, none⟩) 3 3]
  have B5 := alloc_up w4 (.cells #[.int .i64 (30 + (r3 : Int)), .slice (some ⟨bx, 0, none⟩) 3 3] 46)
  have sz5 := World.size_alloc w4 (.cells #[.int .i64 (30 + (r3 : Int)), .slice (some ⟨bx, 0, none⟩) 3 3] 46)
  go_wp2_with fail
  generalize w4.alloc (.cells #[.int .i64 (30 + (r3 : Int)), .slice (some ⟨bx, 0, none⟩) 3 3] 46) = w5 at P4 B5 sz5 ⊢
  have HR5 := Lib.hid (HR4.out.below B5)
  have HO5 := Lib.hid (HO4.out.below B5)
  have O45 := OnlyG.of_below (g := g) B5
  have Q5 := Lib.hid O45
  have lbx : bx < w4.heap.size := HI4.out.2.lt
  have HP5 := Lib.hid P4
  clear P4 B5 O45 sz5
  refine (pick_at 24 HR5.out rfl (by omega) (by omega) (by omega)).mono ?_; rintro e w6 ⟨r6, rfl, hr6, R6, O6⟩
  have HR6 := Lib.hid R6
  have HO6 := Lib.hid (HO5.out.trans O6)
  have Q6 := Lib.hid (Q5.out.trans O6)
  have HD6 := Lib.hid (HD4.out.only Q6.out (by have := SZ0.out; omega))
  have HP6 := Lib.hid (O6.blk HP5.out (by omega))
  clear R6 O6
  have HP06 := Lib.hid (HO6.out.blk P0.out (by omega))
  have ltP : w.heap.size < w6.heap.size := HP06.out.lt
  have ltQ : w4.heap.size < w6.heap.size := HP6.out.lt
  have szz := SZ0.out
  have s34 : w0.heap.size ≤ w3.heap.size := HO3.out.size
  have s4 : w0.heap.size ≤ w4.heap.size := HO4.out.size
  rcases Nat.eq_zero_or_pos r6 with h0 | h0
  subst h0
  go_wp2_with fail
  refine (l91Id_any g _ n c A w6 HR6.out (by omega) (HD6.out.read hn)).mono ?_; rintro e w7 ⟨id, rfl, O7, q7, hq7, R7⟩
  have HR7 := Lib.hid R7
  have HO7 := Lib.hid (HO6.out.trans O7)
  have Q7 := Lib.hid (Q6.out.trans O7)
  have HP7 := Lib.hid (O7.blk HP6.out (by omega))
  have HP07 := Lib.hid (O7.blk HP06.out (by omega))
  have x0 : w7.cell? ⟨w4.heap.size, 0, none⟩ = some (.int .i64 (30 + (r3 : Int))) := HP7.out.cell 0
  have f0 : w7.frozen? ⟨w4.heap.size, 0, none⟩ = false := HP7.out.frozen 0
  clear R7 O7
  go_wp2_with fail
  obtain ⟨W, hW⟩ : ∃ W, W = w7.setCell ⟨w4.heap.size, 0, none⟩ (.int .i64 id) := ⟨_, rfl⟩
  have ek := Lib.hid (show ∀ b, b ≠ w4.heap.size → W.heap[b]? = w7.heap[b]? from fun b hb => by rw [hW]; exact Below.heap_setCell _ _ _ _ hb)
  have WO : OnlyG w0 W g := by rw [hW]; exact HO7.out.set_new (by simp; omega) _
  have WR : Rdr W g q7 := HR7.out.keep (fun b hb => ek.out b (by have := HR4.out.lt; omega))
  have WP : Blk W w4.heap.size 46 #[.int .i64 id, .slice (some ⟨bx, 0, none⟩) 3 3] := by rw [hW]; exact HP7.out.set_ 0 (.int .i64 id)
  have WP0 : Blk W w.heap.size 46 #[.int .i64 0, .slice none 0 0] := (ek.out _ (by omega)).trans HP07.out
  have WQ : OnlyG w4 W g := by rw [hW]; exact Q7.out.set_new (by simp) _
  rw [← hW]
  have hq : q7 ≤ p + 1090 := by omega
  generalize q7 = qq at WR hq
  clear hW ek x0 f0 HP7 HP07 HO7 HR7
  rotate_left
  have e6 : ((r6 : Int) == 0) = false := by simp; omega
  go_wp2_with fail
  have WO := HO6.out
  have WR := HR6.out
  have WP := HP6.out
  have WP0 := HP06.out
  have WQ := Q6.out
  generalize w6 = W at WO WR WP WP0 WQ ⊢
  obtain ⟨id, hid⟩ : ∃ id, 30 + (r3 : Int) = id := ⟨_, rfl⟩
  rw [hid] at WP
  have hq : q4 + 1 ≤ p + 1090 := by omega
  generalize q4 + 1 = qq at WR hq
  rotate_left
  all_goals
    have VD := Lib.hid (HD4.out.only WQ (by omega))
    have VI := Lib.hid (show OwI W w3.heap.size bx ys from ⟨HI4.out.1, WQ.blk HI4.out.2 (by have := HI4.out.1; have := HR3.out.lt; omega)⟩)
    have VO := Lib.hid WO
    have VR := Lib.hid WR
    have VP := Lib.hid WP
    have x0 : W.cell? ⟨w4.heap.size, 0, none⟩ = some (.int .i64 id) := WP.cell 0
    have x1 : W.cell? ⟨w4.heap.size, 1, none⟩ = some (.slice (some ⟨bx, 0, none⟩) 3 3) := WP.cell 1
    have y0 : W.cell? ⟨w.heap.size, 0, none⟩ = some (.int .i64 0) := WP0.cell 0
    have y1 : W.cell? ⟨w.heap.size, 1, none⟩ = some (.slice none 0 0) := WP0.cell 1
    have f0 : W.frozen? ⟨w.heap.size, 0, none⟩ = false := WP0.frozen 0
    have f1 : W.frozen? ⟨w.heap.size, 1, none⟩ = false := WP0.frozen 1
    have VP0 := Lib.hid WP0
    have hbx : bx < w4.heap.size := lbx
    have ltW : w.heap.size < W.heap.size := VP0.out.lt
    have ne1 : w4.heap.size ≠ w.heap.size := by omega
    clear WQ WO WR WP WP0
    refine wp_region_mix (.take 0 (.take 1 (.take 2 (.take 3 (.take 4 (.bar 5 .nil)))))) (fun w' => w'.cell? ⟨w4.heap.size, 0, none⟩ = some (.int .i64 id) ∧ w'.cell? ⟨w4.heap.size, 1, none⟩ = some (.slice (some ⟨bx, 0, none⟩) 3 3)) (by kernel_rfl) (by kernel_rfl) ⟨x0, x1⟩ (fun _ => ?_)
    repeat (first | (refine wpMix_skip (by rfl) (by rfl) ?_; (try simp only [Act.put, List.setIfInBounds_toArray, List.set_cons_zero, List.set_cons_succ])) | (refine wpMix_take (v := ?_) (by rfl) (by rfl) (fun wS hSt => ?_) ?_; rotate_left; (focus ((try dsimp only at hSt); (go_simp <;> with_reducible rfl); done)); (try simp only [Act.put, List.setIfInBounds_toArray, List.set_cons_zero, List.set_cons_succ])))
    (refine wpMix_bar (by rfl) (fun K hK => ?_); go_simp)
    have EP := (VP.out.far (p := ⟨w.heap.size, 0, none⟩) ne1 (.int .i64 id)).far (p := ⟨w.heap.size, 1, none⟩) ne1 (.slice (some ⟨bx, 0, none⟩) 3 3)
    ((try dsimp only); refine hK.out _ _ (⟨EP.cell 0, EP.cell 1⟩) (fun hSw => ?_); (try clear hSw); clear hK K; (try simp only [Act.put, List.setIfInBounds_toArray, List.set_cons_zero, List.set_cons_succ]))
    refine wpMix_nil ?_
    have EQ := (VP0.out.set_ 0 (.int .i64 id)).set_ 1 (.slice (some ⟨bx, 0, none⟩) 3 3)
    have kk : ∀ b, b ≠ w.heap.size → ((W.setCell ⟨w.heap.size, 0, none⟩ (.int .i64 id)).setCell ⟨w.heap.size, 1, none⟩ (.slice (some ⟨bx, 0, none⟩) 3 3)).heap[b]? = W.heap[b]? := fun b hb => (Below.heap_setCell _ _ _ b hb).trans (Below.heap_setCell _ _ _ b hb)
    have KK := Lib.hid kk
    have z0 : ((W.setCell ⟨w.heap.size, 0, none⟩ (.int .i64 id)).setCell ⟨w.heap.size, 1, none⟩ (.slice (some ⟨bx, 0, none⟩) 3 3)).cell? ⟨w.heap.size, 0, none⟩ = some (.int .i64 id) := EQ.cell 0
    have z1 : ((W.setCell ⟨w.heap.size, 0, none⟩ (.int .i64 id)).setCell ⟨w.heap.size, 1, none⟩ (.slice (some ⟨bx, 0, none⟩) 3 3)).cell? ⟨w.heap.size, 1, none⟩ = some (.slice (some ⟨bx, 0, none⟩) 3 3) := EQ.cell 1
    have FO := Lib.hid (show OnlyG w ((W.setCell ⟨w.heap.size, 0, none⟩ (.int .i64 id)).setCell ⟨w.heap.size, 1, none⟩ (.slice (some ⟨bx, 0, none⟩) 3 3)).drew g from
      (((((OnlyG.refl w g).below HB0.out).trans VO.out).set_new (p := ⟨w.heap.size, 0, none⟩) (Nat.le_refl _) _).set_new (p := ⟨w.heap.size, 1, none⟩) (Nat.le_refl _) _).drew)
    have FD := Lib.hid (VD.out.base (w0 := w) (W' := ((W.setCell ⟨w.heap.size, 0, none⟩ (.int .i64 id)).setCell ⟨w.heap.size, 1, none⟩ (.slice (some ⟨bx, 0, none⟩) 3 3)).drew) (by omega) (fun b hb => kk b (by omega)))
    have FI := Lib.hid (show OwI ((W.setCell ⟨w.heap.size, 0, none⟩ (.int .i64 id)).setCell ⟨w.heap.size, 1, none⟩ (.slice (some ⟨bx, 0, none⟩) 3 3)).drew w.heap.size bx ys from ⟨by have := VI.out.1; omega, (kk bx (by have := VI.out.1; omega)).trans VI.out.2⟩)
    have FR := Lib.hid (show Rdr ((W.setCell ⟨w.heap.size, 0, none⟩ (.int .i64 id)).setCell ⟨w.heap.size, 1, none⟩ (.slice (some ⟨bx, 0, none⟩) 3 3)).drew g qq from VR.out.keep (fun b hb => kk b (by omega)))
    clear EP EQ kk x0 x1 y0 y1 f0 f1
    go_wp2
    refine bodyPost_ret (v := .tuple #[.slice (some ⟨rb, 0, none⟩) 3 3, .slice A n c, .agg #[.int .i64 id, .slice (some ⟨bx, 0, none⟩) 3 3]]) (by simp [results, Try.results55, go_sem, z0, z1]) rfl
      ⟨rb, n, c, A, xs, vs, id, bx, ys, rfl, FD.out, hn, FI.out, hl3, hbd, FO.out, qq, by omega, FR.out⟩
end Go.Proofs.Ytgngmjlbeofjkaa
