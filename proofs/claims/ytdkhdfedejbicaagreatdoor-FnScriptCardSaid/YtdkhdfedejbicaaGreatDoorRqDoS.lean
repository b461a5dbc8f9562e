/- Walks: RequestDo and RequestsPlay of the reference. (Printed by gen_rqdos.py.) -/
import Derived.Test.YtdkhdfedejbicaaGreatDoorGatS
import Derived.Test.YtdkhdfedejbicaaGreatDoorSpRq
import Derived.Test.YtdkhdfedejbicaaGreatDoorRdQ
namespace Go.Proofs.YtdkhdfedejbicaaGreatDoor
set_option linter.unusedSimpArgs false
set_option linter.unusedVariables false
open Go Go.RowKit
attribute [local go_sem ↓] Go.wp_at_zero Go.wp_at_succ

theorem OwnCW.none {w : World} {base : Nat} : OwnCW w base (.slice none 0 0) (.slice none 0 0) 0 0 [] [] := OwnCW.of OwnCR.none

set_option maxRecDepth 100000 in
set_option maxHeartbeats 6400000 in
theorem requestDoS_any (A1 A2 A3 : Option Addr) (n1 c1 n2 c2 n3 c3 : Nat) (room : List Int) (us : List Un) (r : Rq) (w : World) (h : RdC w A1 A2 n1 n2 room us) (hs : ShV us) (hn1 : n1 ≤ 1048576) (hx : RdI w w.heap.size A3 n3 r.xs) (hc3 : n3 ≤ c3) :
    Calls Tryz.prog 54 #[.agg #[.slice A1 n1 c1, .slice A2 n2 c2], rqV r A3 n3 c3] w fun e w' => ∃ A4 m4 c4 A5 m5 c5, e = .returned (.tuple #[.agg #[.slice A4 m4 c4, .slice A5 m5 c5], .int .i64 (reqP room us r).2.2]) ∧ OwnCW w' w.heap.size (.slice A4 m4 c4) (.slice A5 m5 c5) m4 m5 (reqP room us r).1 (reqP room us r).2.1 ∧ Below w.heap.size w w' := by
  have H := qh h
  have Hx := qh hx
  have Hsh := qh hs
  clear h hx hs
  have sz : (w.alloc (.cells #[.slice A1 n1 c1, .slice A2 n2 c2] 35)).heap.size = w.heap.size + 1 := World.size_alloc _ _
  have sz2 : ((w.alloc (.cells #[.slice A1 n1 c1, .slice A2 n2 c2] 35)).alloc (.cells (rqC r A3 n3 c3) 77)).heap.size = w.heap.size + 2 := by rw [World.size_alloc, sz]
  have B1 := qh (((alloc_up w (.cells #[.slice A1 n1 c1, .slice A2 n2 c2] 35)).alloc (by rw [sz]; omega) (.cells (rqC r A3 n3 c3) 77)).alloc (by rw [sz2]; omega) (.cells #[.slice none 0 0, .slice none 0 0] 35))
  have P1 := qh (((Blk.new w 35 #[.slice A1 n1 c1, .slice A2 n2 c2]).alloc (.cells (rqC r A3 n3 c3) 77)).alloc (.cells #[.slice none 0 0, .slice none 0 0] 35))
  have hQ := (Blk.new (w.alloc (.cells #[.slice A1 n1 c1, .slice A2 n2 c2] 35)) 77 (rqC r A3 n3 c3)).alloc (.cells #[.slice none 0 0, .slice none 0 0] 35)
  rw [sz] at hQ
  have Q1 := qh hQ
  have hZ := Blk.new ((w.alloc (.cells #[.slice A1 n1 c1, .slice A2 n2 c2] 35)).alloc (.cells (rqC r A3 n3 c3) 77)) 35 #[.slice none 0 0, .slice none 0 0]
  rw [sz2] at hZ
  have Z1 := qh hZ
  clear hZ hQ sz sz2
  obtain ⟨kind, id, xs, grant, num⟩ := r
  dsimp only [rqV, rqC] at *
  have y0 := P1.out.cell 0
  have y1 := P1.out.cell 1
  simp only [gT, gZ, gS] at y0 y1
  go_enter Tryz.func54, Tryz.ntmps54
  go_wp2_with fail
  generalize ((w.alloc (.cells #[.slice A1 n1 c1, .slice A2 n2 c2] 35)).alloc (.cells #[.int .i64 kind, .int .i64 id, .slice A3 n3 c3, .bool grant, .int .i64 num] 77)).alloc (.cells #[.slice none 0 0, .slice none 0 0] 35) = w1 at B1 P1 Q1 Z1 y0 y1 ⊢
  refine (clusterValidSV_any A1 A2 n1 c1 n2 c2 room us w1 (H.out.up B1.out) Hsh.out).mono ?_; rintro e w2 ⟨rfl, hb2⟩
  have B2 := qh (below_to B1.out hb2)
  have P2 := qh (P1.out.below hb2 P1.out.lt)
  have Q2 := qh (Q1.out.below hb2 Q1.out.lt)
  have Z2 := qh (Z1.out.below hb2 Z1.out.lt)
  clear hb2 y0 y1 B1 P1 Q1 Z1
  have y0 := P2.out.cell 0
  have y1 := P2.out.cell 1
  simp only [gT, gZ, gS] at y0 y1
  have q0 := Q2.out.cell 0
  have q1 := Q2.out.cell 1
  have q2 := Q2.out.cell 2
  have q3 := Q2.out.cell 3
  have q4 := Q2.out.cell 4
  simp only [gT, gZ, gS] at q0 q1 q2 q3 q4
  cases hok : clOk room us with
  | false =>
    have Hp := qh (req_bad (r := ⟨kind, id, xs, grant, num⟩) hok)
    have x0 := Z2.out.cell 0
    have x1 := Z2.out.cell 1
    simp only [gT, gZ, gS] at x0 x1
    have x2 := Z2.out.frozen 0
    have x3 := Z2.out.frozen 1
    go_wp2_with fail
    have KT := (KeepTU.set_ (Z2.out) (by decide) (by decide) (by decide) 0 (.slice none 0 0)).trans (KeepTU.set_ ((Z2.out).set_ 0 (.slice none 0 0)) (by decide) (by decide) (by decide) 1 (.slice none 0 0))
    have EQ := qh (((Z2.out).set_ 0 (.slice none 0 0)).set_ 1 (.slice none 0 0))
    have B9 := qh (((B2.out).setCell (p := ⟨w.heap.size + 2, 0, none⟩) (by show w.heap.size ≤ w.heap.size + 2; omega) (.slice none 0 0)).setCell (p := ⟨w.heap.size + 2, 1, none⟩) (by show w.heap.size ≤ w.heap.size + 2; omega) (.slice none 0 0))
    have OC := qh (((OwnCW.none : OwnCW w2 w.heap.size (.slice none 0 0) (.slice none 0 0) 0 0 [] [])).keepTU KT)
    clear KT
    generalize World.setCell (World.setCell w2 ⟨w.heap.size + 2, 0, none⟩ (.slice none 0 0)) ⟨w.heap.size + 2, 1, none⟩ (.slice none 0 0) = w9 at EQ B9 OC ⊢
    have z0 : w9.cell? ⟨w.heap.size + 2, 0, none⟩ = some (.slice none 0 0) := EQ.out.cell 0
    have z1 : w9.cell? ⟨w.heap.size + 2, 1, none⟩ = some (.slice none 0 0) := EQ.out.cell 1
    refine bodyPost_ret (v := .tuple #[.agg #[(.slice none 0 0), (.slice none 0 0)], .int .i64 1]) (by simp [results, Tryz.results54, go_sem, z0, z1]) rfl ⟨_, _, _, _, _, _, by rw [Hp.out], by rw [Hp.out]; exact OC.out, B9.out⟩
  | true =>
    have Hok := qh hok
    clear hok
    go_wp2_with fail
    refine (requestValidS_any ⟨kind, id, xs, grant, num⟩ A3 n3 c3 w2 (Hx.out.up B2.out)).mono ?_; rintro e w3 ⟨rfl, hb3⟩
    have B3 := qh (below_to B2.out hb3)
    have P3 := qh (P2.out.below hb3 P2.out.lt)
    have Q3 := qh (Q2.out.below hb3 Q2.out.lt)
    have Z3 := qh (Z2.out.below hb3 Z2.out.lt)
    clear hb3 y0 y1 q0 q1 q2 q3 q4 B2 P2 Q2 Z2
    have y0 := P3.out.cell 0
    have y1 := P3.out.cell 1
    simp only [gT, gZ, gS] at y0 y1
    have q0 := Q3.out.cell 0
    have q1 := Q3.out.cell 1
    have q2 := Q3.out.cell 2
    have q3 := Q3.out.cell 3
    have q4 := Q3.out.cell 4
    simp only [gT, gZ, gS] at q0 q1 q2 q3 q4
    cases hv : rqOk ⟨kind, id, xs, grant, num⟩ with
    | false =>
      have Hp := qh (req_refuse (r := ⟨kind, id, xs, grant, num⟩) Hok.out hv)
      clear hv
      go_wp2_with fail
      refine (l21Copy_any A1 A2 n1 c1 n2 c2 room us w3 (H.out.up B3.out) (clOk_sh Hok.out) hn1).mono ?_; rintro e w4 ⟨A4, c4, A5, c5, rfl, hoc, hb4⟩
      have B4 := qh (below_to B3.out hb4)
      have O4 := qh ((OwnCW.of (OwnCR.of hoc)).low B3.out.size)
      have Z4 := qh (Z3.out.below hb4 Z3.out.lt)
      clear hb4 hoc y0 y1 q0 q1 q2 q3 q4 P3 Q3
      have x0 := Z4.out.cell 0
      have x1 := Z4.out.cell 1
      simp only [gT, gZ, gS] at x0 x1
      have x2 := Z4.out.frozen 0
      have x3 := Z4.out.frozen 1
      go_wp2_with fail
      have KT := (KeepTU.set_ (Z4.out) (by decide) (by decide) (by decide) 0 (.slice A4 n1 c4)).trans (KeepTU.set_ ((Z4.out).set_ 0 (.slice A4 n1 c4)) (by decide) (by decide) (by decide) 1 (.slice A5 n2 c5))
      have EQ := qh (((Z4.out).set_ 0 (.slice A4 n1 c4)).set_ 1 (.slice A5 n2 c5))
      have B9 := qh (((B4.out).setCell (p := ⟨w.heap.size + 2, 0, none⟩) (by show w.heap.size ≤ w.heap.size + 2; omega) (.slice A4 n1 c4)).setCell (p := ⟨w.heap.size + 2, 1, none⟩) (by show w.heap.size ≤ w.heap.size + 2; omega) (.slice A5 n2 c5))
      have OC := qh ((O4.out).keepTU KT)
      clear KT
      generalize World.setCell (World.setCell w4 ⟨w.heap.size + 2, 0, none⟩ (.slice A4 n1 c4)) ⟨w.heap.size + 2, 1, none⟩ (.slice A5 n2 c5) = w9 at EQ B9 OC ⊢
      have z0 : w9.cell? ⟨w.heap.size + 2, 0, none⟩ = some (.slice A4 n1 c4) := EQ.out.cell 0
      have z1 : w9.cell? ⟨w.heap.size + 2, 1, none⟩ = some (.slice A5 n2 c5) := EQ.out.cell 1
      refine bodyPost_ret (v := .tuple #[.agg #[(.slice A4 n1 c4), (.slice A5 n2 c5)], .int .i64 1]) (by simp [results, Tryz.results54, go_sem, z0, z1]) rfl ⟨_, _, _, _, _, _, by rw [Hp.out], by rw [Hp.out]; exact OC.out, B9.out⟩
    | true =>
      have Hv := qh hv
      clear hv
      rcases rq_kind Hv.out with k0 | k0 | k0 | k0 | k0
      · dsimp only at k0
        subst k0
        have Hp := qh (req_arrive (r := ⟨1, id, xs, grant, num⟩) Hok.out Hv.out rfl)
        go_wp2_with fail
        refine (clusterArrive_any A1 A2 A3 n1 c1 n2 c2 n3 c3 room us id xs grant w3 (H.out.up B3.out) (clOk_sh Hok.out) hn1 (Hx.out.up B3.out) hc3).mono ?_; rintro e w4 ⟨A4, m4, c4, A5, m5, c5, rfl, hoc, hb4⟩
        have B4 := qh (below_to B3.out hb4)
        have O4 := qh ((OwnCW.of hoc).low B3.out.size)
        have Z4 := qh (Z3.out.below hb4 Z3.out.lt)
        clear hb4 hoc y0 y1 q0 q1 q2 q3 q4 P3 Q3
        have x0 := Z4.out.cell 0
        have x1 := Z4.out.cell 1
        simp only [gT, gZ, gS] at x0 x1
        have x2 := Z4.out.frozen 0
        have x3 := Z4.out.frozen 1
        go_wp2_with fail
        have KT := (KeepTU.set_ (Z4.out) (by decide) (by decide) (by decide) 0 (.slice A4 m4 c4)).trans (KeepTU.set_ ((Z4.out).set_ 0 (.slice A4 m4 c4)) (by decide) (by decide) (by decide) 1 (.slice A5 m5 c5))
        have EQ := qh (((Z4.out).set_ 0 (.slice A4 m4 c4)).set_ 1 (.slice A5 m5 c5))
        have B9 := qh (((B4.out).setCell (p := ⟨w.heap.size + 2, 0, none⟩) (by show w.heap.size ≤ w.heap.size + 2; omega) (.slice A4 m4 c4)).setCell (p := ⟨w.heap.size + 2, 1, none⟩) (by show w.heap.size ≤ w.heap.size + 2; omega) (.slice A5 m5 c5))
        have OC := qh ((O4.out).keepTU KT)
        clear KT
        generalize World.setCell (World.setCell w4 ⟨w.heap.size + 2, 0, none⟩ (.slice A4 m4 c4)) ⟨w.heap.size + 2, 1, none⟩ (.slice A5 m5 c5) = w9 at EQ B9 OC ⊢
        have z0 : w9.cell? ⟨w.heap.size + 2, 0, none⟩ = some (.slice A4 m4 c4) := EQ.out.cell 0
        have z1 : w9.cell? ⟨w.heap.size + 2, 1, none⟩ = some (.slice A5 m5 c5) := EQ.out.cell 1
        refine bodyPost_ret (v := .tuple #[.agg #[(.slice A4 m4 c4), (.slice A5 m5 c5)], .int .i64 (cavP room us id xs grant).2.2]) (by simp [results, Tryz.results54, go_sem, z0, z1]) rfl ⟨_, _, _, _, _, _, by rw [Hp.out], by rw [Hp.out]; exact OC.out, B9.out⟩
      · dsimp only at k0
        subst k0
        have Hp := qh (req_depart (r := ⟨2, id, xs, grant, num⟩) Hok.out Hv.out rfl)
        go_wp2_with fail
        refine (clusterDepart_any A1 A2 n1 c1 n2 c2 room us num w3 (H.out.up B3.out) (clOk_sh Hok.out) hn1).mono ?_; rintro e w4 ⟨A4, m4, c4, A5, m5, c5, rfl, hoc, hb4⟩
        have B4 := qh (below_to B3.out hb4)
        have O4 := qh ((OwnCW.of hoc).low B3.out.size)
        have Z4 := qh (Z3.out.below hb4 Z3.out.lt)
        clear hb4 hoc y0 y1 q0 q1 q2 q3 q4 P3 Q3
        have x0 := Z4.out.cell 0
        have x1 := Z4.out.cell 1
        simp only [gT, gZ, gS] at x0 x1
        have x2 := Z4.out.frozen 0
        have x3 := Z4.out.frozen 1
        go_wp2_with fail
        have KT := (KeepTU.set_ (Z4.out) (by decide) (by decide) (by decide) 0 (.slice A4 m4 c4)).trans (KeepTU.set_ ((Z4.out).set_ 0 (.slice A4 m4 c4)) (by decide) (by decide) (by decide) 1 (.slice A5 m5 c5))
        have EQ := qh (((Z4.out).set_ 0 (.slice A4 m4 c4)).set_ 1 (.slice A5 m5 c5))
        have B9 := qh (((B4.out).setCell (p := ⟨w.heap.size + 2, 0, none⟩) (by show w.heap.size ≤ w.heap.size + 2; omega) (.slice A4 m4 c4)).setCell (p := ⟨w.heap.size + 2, 1, none⟩) (by show w.heap.size ≤ w.heap.size + 2; omega) (.slice A5 m5 c5))
        have OC := qh ((O4.out).keepTU KT)
        clear KT
        generalize World.setCell (World.setCell w4 ⟨w.heap.size + 2, 0, none⟩ (.slice A4 m4 c4)) ⟨w.heap.size + 2, 1, none⟩ (.slice A5 m5 c5) = w9 at EQ B9 OC ⊢
        have z0 : w9.cell? ⟨w.heap.size + 2, 0, none⟩ = some (.slice A4 m4 c4) := EQ.out.cell 0
        have z1 : w9.cell? ⟨w.heap.size + 2, 1, none⟩ = some (.slice A5 m5 c5) := EQ.out.cell 1
        refine bodyPost_ret (v := .tuple #[.agg #[(.slice A4 m4 c4), (.slice A5 m5 c5)], .int .i64 (depP room us num).2.2]) (by simp [results, Tryz.results54, go_sem, z0, z1]) rfl ⟨_, _, _, _, _, _, by rw [Hp.out], by rw [Hp.out]; exact OC.out, B9.out⟩
      · dsimp only at k0
        subst k0
        have Hp := qh (req_open (r := ⟨3, id, xs, grant, num⟩) Hok.out Hv.out rfl)
        go_wp2_with fail
        refine (clusterOpen_any A1 A2 n1 c1 n2 c2 room us num true w3 (H.out.up B3.out) (clOk_sh Hok.out) hn1).mono ?_; rintro e w4 ⟨A4, m4, c4, A5, m5, c5, rfl, hoc, hb4⟩
        have B4 := qh (below_to B3.out hb4)
        have O4 := qh ((OwnCW.of hoc).low B3.out.size)
        have Z4 := qh (Z3.out.below hb4 Z3.out.lt)
        clear hb4 hoc y0 y1 q0 q1 q2 q3 q4 P3 Q3
        have x0 := Z4.out.cell 0
        have x1 := Z4.out.cell 1
        simp only [gT, gZ, gS] at x0 x1
        have x2 := Z4.out.frozen 0
        have x3 := Z4.out.frozen 1
        go_wp2_with fail
        have KT := (KeepTU.set_ (Z4.out) (by decide) (by decide) (by decide) 0 (.slice A4 m4 c4)).trans (KeepTU.set_ ((Z4.out).set_ 0 (.slice A4 m4 c4)) (by decide) (by decide) (by decide) 1 (.slice A5 m5 c5))
        have EQ := qh (((Z4.out).set_ 0 (.slice A4 m4 c4)).set_ 1 (.slice A5 m5 c5))
        have B9 := qh (((B4.out).setCell (p := ⟨w.heap.size + 2, 0, none⟩) (by show w.heap.size ≤ w.heap.size + 2; omega) (.slice A4 m4 c4)).setCell (p := ⟨w.heap.size + 2, 1, none⟩) (by show w.heap.size ≤ w.heap.size + 2; omega) (.slice A5 m5 c5))
        have OC := qh ((O4.out).keepTU KT)
        clear KT
        generalize World.setCell (World.setCell w4 ⟨w.heap.size + 2, 0, none⟩ (.slice A4 m4 c4)) ⟨w.heap.size + 2, 1, none⟩ (.slice A5 m5 c5) = w9 at EQ B9 OC ⊢
        have z0 : w9.cell? ⟨w.heap.size + 2, 0, none⟩ = some (.slice A4 m4 c4) := EQ.out.cell 0
        have z1 : w9.cell? ⟨w.heap.size + 2, 1, none⟩ = some (.slice A5 m5 c5) := EQ.out.cell 1
        refine bodyPost_ret (v := .tuple #[.agg #[(.slice A4 m4 c4), (.slice A5 m5 c5)], .int .i64 (opnP room us num true).2.2]) (by simp [results, Tryz.results54, go_sem, z0, z1]) rfl ⟨_, _, _, _, _, _, by rw [Hp.out], by rw [Hp.out]; exact OC.out, B9.out⟩
      · dsimp only at k0
        subst k0
        have Hp := qh (req_close (r := ⟨4, id, xs, grant, num⟩) Hok.out Hv.out rfl)
        go_wp2_with fail
        refine (clusterOpen_any A1 A2 n1 c1 n2 c2 room us num false w3 (H.out.up B3.out) (clOk_sh Hok.out) hn1).mono ?_; rintro e w4 ⟨A4, m4, c4, A5, m5, c5, rfl, hoc, hb4⟩
        have B4 := qh (below_to B3.out hb4)
        have O4 := qh ((OwnCW.of hoc).low B3.out.size)
        have Z4 := qh (Z3.out.below hb4 Z3.out.lt)
        clear hb4 hoc y0 y1 q0 q1 q2 q3 q4 P3 Q3
        have x0 := Z4.out.cell 0
        have x1 := Z4.out.cell 1
        simp only [gT, gZ, gS] at x0 x1
        have x2 := Z4.out.frozen 0
        have x3 := Z4.out.frozen 1
        go_wp2_with fail
        have KT := (KeepTU.set_ (Z4.out) (by decide) (by decide) (by decide) 0 (.slice A4 m4 c4)).trans (KeepTU.set_ ((Z4.out).set_ 0 (.slice A4 m4 c4)) (by decide) (by decide) (by decide) 1 (.slice A5 m5 c5))
        have EQ := qh (((Z4.out).set_ 0 (.slice A4 m4 c4)).set_ 1 (.slice A5 m5 c5))
        have B9 := qh (((B4.out).setCell (p := ⟨w.heap.size + 2, 0, none⟩) (by show w.heap.size ≤ w.heap.size + 2; omega) (.slice A4 m4 c4)).setCell (p := ⟨w.heap.size + 2, 1, none⟩) (by show w.heap.size ≤ w.heap.size + 2; omega) (.slice A5 m5 c5))
        have OC := qh ((O4.out).keepTU KT)
        clear KT
        generalize World.setCell (World.setCell w4 ⟨w.heap.size + 2, 0, none⟩ (.slice A4 m4 c4)) ⟨w.heap.size + 2, 1, none⟩ (.slice A5 m5 c5) = w9 at EQ B9 OC ⊢
        have z0 : w9.cell? ⟨w.heap.size + 2, 0, none⟩ = some (.slice A4 m4 c4) := EQ.out.cell 0
        have z1 : w9.cell? ⟨w.heap.size + 2, 1, none⟩ = some (.slice A5 m5 c5) := EQ.out.cell 1
        refine bodyPost_ret (v := .tuple #[.agg #[(.slice A4 m4 c4), (.slice A5 m5 c5)], .int .i64 (opnP room us num false).2.2]) (by simp [results, Tryz.results54, go_sem, z0, z1]) rfl ⟨_, _, _, _, _, _, by rw [Hp.out], by rw [Hp.out]; exact OC.out, B9.out⟩
      · dsimp only at k0
        subst k0
        have Hp := qh (req_gather (r := ⟨5, id, xs, grant, num⟩) Hok.out Hv.out rfl)
        have hnum : ∃ q : Nat, num = (q : Int) ∧ q ≤ 20 := by
          have hv := Hv.out
          unfold rqOk bareOk at hv
          dsimp only at hv
          rw [if_neg (by omega), if_neg (by omega), if_neg (by omega), if_pos rfl, Bool.and_eq_true] at hv
          have := inR_iff.1 hv.2
          exact ⟨num.toNat, by omega, by omega⟩
        obtain ⟨q, rfl, hq⟩ := hnum
        go_wp2_with fail
        refine (l32Gather_any A1 A2 n1 c1 n2 c2 q room us w3 (H.out.up B3.out) Hok.out hq).mono ?_; rintro e w4 ⟨A4, m4, c4, A5, m5, c5, rfl, hoc, hb4⟩
        have B4 := qh (below_to B3.out hb4)
        have O4 := qh (hoc.low B3.out.size)
        have Z4 := qh (Z3.out.below hb4 Z3.out.lt)
        clear hb4 hoc y0 y1 q0 q1 q2 q3 q4 P3 Q3
        have x0 := Z4.out.cell 0
        have x1 := Z4.out.cell 1
        simp only [gT, gZ, gS] at x0 x1
        have x2 := Z4.out.frozen 0
        have x3 := Z4.out.frozen 1
        go_wp2_with fail
        have KT := (KeepTU.set_ (Z4.out) (by decide) (by decide) (by decide) 0 (.slice A4 m4 c4)).trans (KeepTU.set_ ((Z4.out).set_ 0 (.slice A4 m4 c4)) (by decide) (by decide) (by decide) 1 (.slice A5 m5 c5))
        have EQ := qh (((Z4.out).set_ 0 (.slice A4 m4 c4)).set_ 1 (.slice A5 m5 c5))
        have B9 := qh (((B4.out).setCell (p := ⟨w.heap.size + 2, 0, none⟩) (by show w.heap.size ≤ w.heap.size + 2; omega) (.slice A4 m4 c4)).setCell (p := ⟨w.heap.size + 2, 1, none⟩) (by show w.heap.size ≤ w.heap.size + 2; omega) (.slice A5 m5 c5))
        have OC := qh ((O4.out).keepTU KT)
        clear KT
        generalize World.setCell (World.setCell w4 ⟨w.heap.size + 2, 0, none⟩ (.slice A4 m4 c4)) ⟨w.heap.size + 2, 1, none⟩ (.slice A5 m5 c5) = w9 at EQ B9 OC ⊢
        have z0 : w9.cell? ⟨w.heap.size + 2, 0, none⟩ = some (.slice A4 m4 c4) := EQ.out.cell 0
        have z1 : w9.cell? ⟨w.heap.size + 2, 1, none⟩ = some (.slice A5 m5 c5) := EQ.out.cell 1
        refine bodyPost_ret (v := .tuple #[.agg #[(.slice A4 m4 c4), (.slice A5 m5 c5)], .int .i64 0]) (by simp [results, Tryz.results54, go_sem, z0, z1]) rfl ⟨_, _, _, _, _, _, by rw [Hp.out], by rw [Hp.out]; exact OC.out, B9.out⟩

end Go.Proofs.YtdkhdfedejbicaaGreatDoor
