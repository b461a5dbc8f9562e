/- Walks: RequestDo and RequestsPlay of the reference. (Printed by gen_rqdos.py.) -/
import Derived.Test.YtlegpecjoaklnaaGreatDoorGatS
import Derived.Test.YtlegpecjoaklnaaGreatDoorSpRq
import Derived.Test.YtlegpecjoaklnaaGreatDoorRdQ
namespace Go.Proofs.YtlegpecjoaklnaaGreatDoor
set_option linter.unusedSimpArgs false
set_option linter.unusedVariables false
open Go Go.RowKit
attribute [local go_sem ↓] Go.wp_at_zero Go.wp_at_succ

theorem OwnCW.none {w : World} {base : Nat} : OwnCW w base (.slice none 0 0) (.slice none 0 0) 0 0 [] [] := OwnCW.of OwnCR.none

set_option maxRecDepth 100000 in
set_option maxHeartbeats 6400000 in
theorem requestDoS_any (A1 A2 A3 : Option Addr) (n1 c1 n2 c2 n3 c3 : Nat) (room : List Int) (us : List Un) (r : Rq) (w : World) (h : RdC w A1 A2 n1 n2 room us) (hs : ShV us) (hn1 : n1 ≤ 1048576) (hx : RdI w w.heap.size A3 n3 r.xs) (hc3 : n3 ≤ c3) :
    Calls Tryz.prog 27 #[.agg #[.slice A1 n1 c1, .slice A2 n2 c2], rqV r A3 n3 c3] w fun e w' => ∃ A4 m4 c4 A5 m5 c5, e = .returned (.tuple #[.agg #[.slice A4 m4 c4, .slice A5 m5 c5], .int .i64 (reqP room us r).2.2]) ∧ OwnCW w' w.heap.size (.slice A4 m4 c4) (.slice A5 m5 c5) m4 m5 (reqP room us r).1 (reqP room us r).2.1 ∧ Below w.heap.size w w' := by
  have H := qh h
  have Hx := qh hx
  have Hsh := qh hs
  clear h hx hs
  have sz : (w.alloc (.cells #[.slice A1 n1 c1, .slice A2 n2 c2] 26)).heap.size = w.heap.size + 1 := World.size_alloc _ _
  have sz2 : ((w.alloc (.cells #[.slice A1 n1 c1, .slice A2 n2 c2] 26)).alloc (.cells (rqC r A3 n3 c3) 35)).heap.size = w.heap.size + 2 := by rw [World.size_alloc, sz]
  have B1 := qh (((alloc_up w (.cells #[.slice A1 n1 c1, .slice A2 n2 c2] 26)).alloc (by rw [sz]; omega) (.cells (rqC r A3 n3 c3) 35)).alloc (by rw [sz2]; omega) (.cells #[.slice none 0 0, .slice none 0 0] 26))
  have P1 := qh (((Blk.new w 26 #[.slice A1 n1 c1, .slice A2 n2 c2]).alloc (.cells (rqC r A3 n3 c3) 35)).alloc (.cells #[.slice none 0 0, .slice none 0 0] 26))
  have hQ := (Blk.new (w.alloc (.cells #[.slice A1 n1 c1, .slice A2 n2 c2] 26)) 35 (rqC r A3 n3 c3)).alloc (.cells #[.slice none 0 0, .slice none 0 0] 26)
  rw [sz] at hQ
  have Q1 := qh hQ
  have hZ := Blk.new ((w.alloc (.cells #[.slice A1 n1 c1, .slice A2 n2 c2] 26)).alloc (.cells (rqC r A3 n3 c3) 35)) 26 #[.slice none 0 0, .slice none 0 0]
  rw [sz2] at hZ
  have Z1 := qh hZ
  clear hZ hQ sz sz2
  obtain ⟨kind, id, xs, grant, num⟩ := r
  dsimp only [rqV, rqC] at *
  have y0 := P1.out.cell 0
  have y1 := P1.out.cell 1
  simp only [gT, gZ, gS] at y0 y1
  go_enter Tryz.func27, Tryz.ntmps27
  go_wp2_with fail
  generalize ((w.alloc (.cells #[.slice A1 n1 c1, .slice A2 n2 c2] 26)).alloc (.cells #[.int .i64 kind, .int .i64 id, .slice A3 n3 c3, .bool grant, .int .i64 num] 35)).alloc (.cells #[.slice none 0 0, .slice none 0 0] 26) = w1 at B1 P1 Q1 Z1 y0 y1 ⊢
  refine (clusterValidSV_any A1 A2 n1 c1 n2 c2 room us w1 (H.out.up B1.out) Hsh.out).mono ?_; rintro e w2 ⟨rfl, hb2⟩
  have B2 := qh (below_to B1.out hb2)
  have P2 := qh (P1.out.below hb2 P1.out.lt)
  have Q2 := qh (Q1.out.below hb2 Q1.out.lt)
  have Z2 := qh (Z1.out.below hb2 Z1.out.lt)
  clear hb2 y0 y1 B1 P1 Q1 Z1
  have y0 := P2.out.cell 0
  have y1 := P2.out.cell 1
  simp only [gT, gZ, gS] at y0 y1
  have q0 := Q2.out.cell 0
  have q1 := Q2.out.cell 1
  have q2 := Q2.out.cell 2
  have q3 := Q2.out.cell 3
  have q4 := Q2.out.cell 4
  simp only [gT, gZ, gS] at q0 q1 q2 q3 q4
  cases hok : clOk room us with
  | false =>
    have Hp := qh (req_bad (r := ⟨kind, id, xs, grant, num⟩) hok)
    have x0 := Z2.out.cell 0
    have x1 := Z2.out.cell 1
    simp only [gT, gZ, gS] at x0 x1
    have x2 := Z2.out.frozen 0
    have x3 := Z2.out.frozen 1
    go_wp2_with fail
    have KT := (KeepTU.set_ (Z2.out) (by decide) (by decide) (by decide) 0 (.slice none 0 0)).trans (KeepTU.set_ ((Z2.out).set_ 0 (.slice none 0 0)) (by decide) (by decide) (by decide) 1 (.slice none 0 0))
    have EQ := qh (((Z2.out).set_ 0 (.slice none 0 0)).set_ 1 (.slice none 0 0))
    have B9 := qh (((B2.out).setCell (p := ⟨w.heap.size + 2, 0, none⟩) (by show w.heap.size ≤ w.heap.size + 2; omega) (.slice none 0 0)).setCell (p := ⟨w.heap.size + 2, 1, none⟩) (by show w.heap.size ≤ w.heap.size + 2; omega) (.slice none 0 0))
    have OC := qh (((OwnCW.none : OwnCW w2 w.heap.size (.slice none 0 0) (.slice none 0 0) 0 0 [] [])).keepTU KT)
    clear KT
    generalize World.setCell (World.setCell w2 ⟨w.heap.size + 2, 0, none⟩ (.slice none 0 0)) ⟨w.heap.size + 2, 1, none⟩ (.slice none 0 0) = w9 at EQ B9 OC ⊢
    have z0 : w9.cell? ⟨w.heap.size + 2, 0, none⟩ = some (.slice none 0 0) := EQ.out.cell 0
    have z1 : w9.cell? ⟨w.heap.size + 2, 1, none⟩ = some (.slice none 0 0) := EQ.out.cell 1
    refine bodyPost_ret (v := .tuple #[.agg #[(.slice none 0 0), (.slice none 0 0)], .int .i64 1]) (by simp [results, Tryz.results27, go_sem, z0, z1]) rfl ⟨_, _, _, _, _, _, by rw [Hp.out], by rw [Hp.out]; exact OC.out, B9.out⟩
  | true =>
    have Hok := qh hok
    clear hok
    go_wp2_with fail
    refine (requestValidS_any ⟨kind, id, xs, grant, num⟩ A3 n3 c3 w2 (Hx.out.up B2.out)).mono ?_; rintro e w3 ⟨rfl, hb3⟩
    have B3 := qh (below_to B2.out hb3)
    have P3 := qh (P2.out.below hb3 P2.out.lt)
    have Q3 := qh (Q2.out.below hb3 Q2.out.lt)
    have Z3 := qh (Z2.out.below hb3 Z2.out.lt)
    clear hb3 y0 y1 q0 q1 q2 q3 q4 B2 P2 Q2 Z2
    have y0 := P3.out.cell 0
    have y1 := P3.out.cell 1
    simp only [gT, gZ, gS] at y0 y1
    have q0 := Q3.out.cell 0
    have q1 := Q3.out.cell 1
    have q2 := Q3.out.cell 2
    have q3 := Q3.out.cell 3
    have q4 := Q3.out.cell 4
    simp only [gT, gZ, gS] at q0 q1 q2 q3 q4
    cases hv : rqOk ⟨kind, id, xs, grant, num⟩ with
    | false =>
      have Hp := qh (req_refuse (r := ⟨kind, id, xs, grant, num⟩) Hok.out hv)
      clear hv
      go_wp2_with fail
      refine (l21Copy_any A1 A2 n1 c1 n2 c2 room us w3 (H.out.up B3.out) (clOk_sh Hok.out) hn1).mono ?_; rintro e w4 ⟨A4, c4, A5, c5, rfl, hoc, hb4⟩
      have B4 := qh (below_to B3.out hb4)
      have O4 := qh ((OwnCW.of (OwnCR.of hoc)).low B3.out.size)
      have Z4 := qh (Z3.out.below hb4 Z3.out.lt)
      clear hb4 hoc y0 y1 q0 q1 q2 q3 q4 P3 Q3
      have x0 := Z4.out.cell 0
      have x1 := Z4.out.cell 1
      simp only [gT, gZ, gS] at x0 x1
      have x2 := Z4.out.frozen 0
      have x3 := Z4.out.frozen 1
      go_wp2_with fail
      have KT := (KeepTU.set_ (Z4.out) (by decide) (by decide) (by decide) 0 (.slice A4 n1 c4)).trans (KeepTU.set_ ((Z4.out).set_ 0 (.slice A4 n1 c4)) (by decide) (by decide) (by decide) 1 (.slice A5 n2 c5))
      have EQ := qh (((Z4.out).set_ 0 (.slice A4 n1 c4)).set_ 1 (.slice A5 n2 c5))
      have B9 := qh (((B4.out).setCell (p := ⟨w.heap.size + 2, 0, none⟩) (by show w.heap.size ≤ w.heap.size + 2; omega) (.slice A4 n1 c4)).setCell (p := ⟨w.heap.size + 2, 1, none⟩) (by show w.heap.size ≤ w.heap.size + 2; omega) (.slice A5 n2 c5))
      have OC := qh ((O4.out).keepTU KT)
      clear KT
      generalize World.setCell (World.setCell w4 ⟨w.heap.size + 2, 0, none⟩ (.slice A4 n1 c4)) ⟨w.heap.size + 2, 1, none⟩ (.slice A5 n2 c5) = w9 at EQ B9 OC ⊢
      have z0 : w9.cell? ⟨w.heap.size + 2, 0, none⟩ = some (.slice A4 n1 c4) := EQ.out.cell 0
      have z1 : w9.cell? ⟨w.heap.size + 2, 1, none⟩ = some (.slice A5 n2 c5) := EQ.out.cell 1
      refine bodyPost_ret (v := .tuple #[.agg #[(.slice A4 n1 c4), (.slice A5 n2 c5)], .int .i64 1]) (by simp [results, Tryz.results27, go_sem, z0, z1]) rfl ⟨_, _, _, _, _, _, by rw [Hp.out], by rw [Hp.out]; exact OC.out, B9.out⟩
    | true =>
      have Hv := qh hv
      clear hv
      rcases rq_kind Hv.out with k0 | k0 | k0 | k0 | k0
      · dsimp only at k0
        subst k0
        have Hp := qh (req_arrive (r := ⟨1, id, xs, grant, num⟩) Hok.out Hv.out rfl)
        go_wp2_with fail
        refine (clusterArrive_any A1 A2 A3 n1 c1 n2 c2 n3 c3 room us id xs grant w3 (H.out.up B3.out) (clOk_sh Hok.out) hn1 (Hx.out.up B3.out) hc3).mono ?_; rintro e w4 ⟨A4, m4, c4, A5, m5, c5, rfl, hoc, hb4⟩
        have B4 := qh (below_to B3.out hb4)
        have O4 := qh ((OwnCW.of hoc).low B3.out.size)
        have Z4 := qh (Z3.out.below hb4 Z3.out.lt)
        clear hb4 hoc y0 y1 q0 q1 q2 q3 q4 P3 Q3
        have x0 := Z4.out.cell 0
        have x1 := Z4.out.cell 1
        simp only [gT, gZ, gS] at x0 x1
        have x2 := Z4.out.frozen 0
        have x3 := Z4.out.frozen 1
        go_wp2_with fail
        have KT := (KeepTU.set_ (Z4.out) (by decide) (by decide) (by decide) 0 (.slice A4 m4 c4)).trans (KeepTU.set_ ((Z4.out).set_ 0 (.slice A4 m4 c4)) (by decide) (by decide) (by decide) 1 (.slice A5 m5 c5))
        have EQ := qh (((Z4.out).set_ 0 (.slice A4 m4 c4)).set_ 1 (.slice A5 m5 c5))
        have B9 := qh (((B4.out).setCell (p := ⟨w.heap.size + 2, 0, none⟩) (by show w.heap.size ≤ w.heap.size + 2; omega) (.slice A4 m4 c4)).setCell (p := ⟨w.heap.size + 2, 1, none⟩) (by show w.heap.size ≤ w.heap.size + 2; omega) (.slice A5 m5 c5))
        have OC := qh ((O4.out).keepTU KT)
        clear KT
        generalize World.setCell (World.setCell w4 ⟨w.heap.size + 2, 0, none⟩ (.slice A4 m4 c4)) ⟨w.heap.size + 2, 1, none⟩ (.slice A5 m5 c5) = w9 at EQ B9 OC ⊢
        have z0 : w9.cell? ⟨w.heap.size + 2, 0, none⟩ = some (.slice A4 m4 c4) := EQ.out.cell 0
        have z1 : w9.cell? ⟨w.heap.size + 2, 1, none⟩ = some (.slice A5 m5 c5) := EQ.out.cell 1
        refine bodyPost_ret (v := .tuple #[.agg #[(.slice A4 m4 c4), (.slice A5 m5 c5)], .int .i64 (cavP room us id xs grant).2.2]) (by simp [results, Tryz.results27, go_sem, z0, z1]) rfl ⟨_, _, _, _, _, _, by rw [Hp.out], by rw [Hp.out]; exact OC.out, B9.out⟩
      · dsimp only at k0
        subst k0
        have Hp := qh (req_depart (r := ⟨2, id, xs, grant, num⟩) Hok.out Hv.out rfl)
        go_wp2_with fail
        refine (clusterDepart_any A1 A2 n1 c1 n2 c2 room us num w3 (H.out.up B3.out) (clOk_sh Hok.out) hn1).mono ?_; rintro e w4 ⟨A4, m4, c4, A5, m5, c5, rfl, hoc, hb4⟩
        have B4 := qh (below_to B3.out hb4)
        have O4 := qh ((OwnCW.of hoc).low B3.out.size)
        have Z4 := qh (Z3.out.below hb4 Z3.out.lt)
        clear hb4 hoc y0 y1 q0 q1 q2 q3 q4 P3 Q3
        have x0 := Z4.out.cell 0
        have x1 := Z4.out.cell 1
        simp only [gT, gZ, gS] at x0 x1
        have x2 := Z4.out.frozen 0
        have x3 := Z4.out.frozen 1
        go_wp2_with fail
        have KT := (KeepTU.set_ (Z4.out) (by decide) (by decide) (by decide) 0 (.slice A4 m4 c4)).trans (KeepTU.set_ ((Z4.out).set_ 0 (.slice A4 m4 c4)) (by decide) (by decide) (by decide) 1 (.slice A5 m5 c5))
        have EQ := qh (((Z4.out).set_ 0 (.slice A4 m4 c4)).set_ 1 (.slice A5 m5 c5))
        have B9 := qh (((B4.out).setCell (p := ⟨w.heap.size + 2, 0, none⟩) (by show w.heap.size ≤ w.heap.size + 2; omega) (.slice A4 m4 c4)).setCell (p := ⟨w.heap.size + 2, 1, none⟩) (by show w.heap.size ≤ w.heap.size + 2; omega) (.slice A5 m5 c5))
        have OC := qh ((O4.out).keepTU KT)
        clear KT
        generalize World.setCell (World.setCell w4 ⟨w.heap.size + 2, 0, none⟩ (.slice A4 m4 c4)) ⟨w.heap.size + 2, 1, none⟩ (.slice A5 m5 c5) = w9 at EQ B9 OC ⊢
        have z0 : w9.cell? ⟨w.heap.size + 2, 0, none⟩ = some (.slice A4 m4 c4) := EQ.out.cell 0
        have z1 : w9.cell? ⟨w.heap.size + 2, 1, none⟩ = some (.slice A5 m5 c5) := EQ.out.cell 1
        refine bodyPost_ret (v := .tuple #[.agg #[(.slice A4 m4 c4), (.slice A5 m5 c5)], .int .i64 (depP room us num).2.2]) (by simp [results, Tryz.results27, go_sem, z0, z1]) rfl ⟨_, _, _, _, _, _, by rw [Hp.out], by rw [Hp.out]; exact OC.out, B9.out⟩
      · dsimp only at k0
        subst k0
        have Hp := qh (req_open (r := ⟨3, id, xs, grant, num⟩) Hok.out Hv.out rfl)
        go_wp2_with fail
        refine (clusterOpen_any A1 A2 n1 c1 n2 c2 room us num true w3 (H.out.up B3.out) (clOk_sh Hok.out) hn1).mono ?_; rintro e w4 ⟨A4, m4, c4, A5, m5, c5, rfl, hoc, hb4⟩
        have B4 := qh (below_to B3.out hb4)
        have O4 := qh ((OwnCW.of hoc).low B3.out.size)
        have Z4 := qh (Z3.out.below hb4 Z3.out.lt)
        clear hb4 hoc y0 y1 q0 q1 q2 q3 q4 P3 Q3
        have x0 := Z4.out.cell 0
        have x1 := Z4.out.cell 1
        simp only [gT, gZ, gS] at x0 x1
        have x2 := Z4.out.frozen 0
        have x3 := Z4.out.frozen 1
        go_wp2_with fail
        have KT := (KeepTU.set_ (Z4.out) (by decide) (by decide) (by decide) 0 (.slice A4 m4 c4)).trans (KeepTU.set_ ((Z4.out).set_ 0 (.slice A4 m4 c4)) (by decide) (by decide) (by decide) 1 (.slice A5 m5 c5))
        have EQ := qh (((Z4.out).set_ 0 (.slice A4 m4 c4)).set_ 1 (.slice A5 m5 c5))
        have B9 := qh (((B4.out).setCell (p := ⟨w.heap.size + 2, 0, none⟩) (by show w.heap.size ≤ w.heap.size + 2; omega) (.slice A4 m4 c4)).setCell (p := ⟨w.heap.size + 2, 1, none⟩) (by show w.heap.size ≤ w.heap.size + 2; omega) (.slice A5 m5 c5))
        have OC := qh ((O4.out).keepTU KT)
        clear KT
        generalize World.setCell (World.setCell w4 ⟨w.heap.size + 2, 0, none⟩ (.slice A4 m4 c4)) ⟨w.heap.size + 2, 1, none⟩ (.slice A5 m5 c5) = w9 at EQ B9 OC ⊢
        have z0 : w9.cell? ⟨w.heap.size + 2, 0, none⟩ = some (.slice A4 m4 c4) := EQ.out.cell 0
        have z1 : w9.cell? ⟨w.heap.size + 2, 1, none⟩ = some (.slice A5 m5 c5) := EQ.out.cell 1
        refine bodyPost_ret (v := .tuple #[.agg #[(.slice A4 m4 c4), (.slice A5 m5 c5)], .int .i64 (opnP room us num true).2.2]) (by simp [results, Tryz.results27, go_sem, z0, z1]) rfl ⟨_, _, _, _, _, _, by rw [Hp.out], by rw [Hp.out]; exact OC.out, B9.out⟩
      · dsimp only at k0
        subst k0
        have Hp := qh (req_close (r := ⟨4, id, xs, grant, num⟩) Hok.out Hv.out rfl)
        go_wp2_with fail
        refine (clusterOpen_any A1 A2 n1 c1 n2 c2 room us num false w3 (H.out.up B3.out) (clOk_sh Hok.out) hn1).mono ?_; rintro e w4 ⟨A4, m4, c4, A5, m5, c5, rfl, hoc, hb4⟩
        have B4 := qh (below_to B3.out hb4)
        have O4 := qh ((OwnCW.of hoc).low B3.out.size)
        have Z4 := qh (Z3.out.below hb4 Z3.out.lt)
        clear hb4 hoc y0 y1 q0 q1 q2 q3 q4 P3 Q3
        have x0 := Z4.out.cell 0
        have x1 := Z4.out.cell 1
        simp only [gT, gZ, gS] at x0 x1
        have x2 := Z4.out.frozen 0
        have x3 := Z4.out.frozen 1
        go_wp2_with fail
        have KT := (KeepTU.set_ (Z4.out) (by decide) (by decide) (by decide) 0 (.slice A4 m4 c4)).trans (KeepTU.set_ ((Z4.out).set_ 0 (.slice A4 m4 c4)) (by decide) (by decide) (by decide) 1 (.slice A5 m5 c5))
        have EQ := qh (((Z4.out).set_ 0 (.slice A4 m4 c4)).set_ 1 (.slice A5 m5 c5))
        have B9 := qh (((B4.out).setCell (p := ⟨w.heap.size + 2, 0, none⟩) (by show w.heap.size ≤ w.heap.size + 2; omega) (.slice A4 m4 c4)).setCell (p := ⟨w.heap.size + 2, 1, none⟩) (by show w.heap.size ≤ w.heap.size + 2; omega) (.slice A5 m5 c5))
        have OC := qh ((O4.out).keepTU KT)
        clear KT
        generalize World.setCell (World.setCell w4 ⟨w.heap.size + 2, 0, none⟩ (.slice A4 m4 c4)) ⟨w.heap.size + 2, 1, none⟩ (.slice A5 m5 c5) = w9 at EQ B9 OC ⊢
        have z0 : w9.cell? ⟨w.heap.size + 2, 0, none⟩ = some (.slice A4 m4 c4) := EQ.out.cell 0
        have z1 : w9.cell? ⟨w.heap.size + 2, 1, none⟩ = some (.slice A5 m5 c5) := EQ.out.cell 1
        refine bodyPost_ret (v := .tuple #[.agg #[(.slice A4 m4 c4), (.slice A5 m5 c5)], .int .i64 (opnP room us num false).2.2]) (by simp [results, Tryz.results27, go_sem, z0, z1]) rfl ⟨_, _, _, _, _, _, by rw [Hp.out], by rw [Hp.out]; exact OC.out, B9.out⟩
      · dsimp only at k0
        subst k0
        have Hp := qh (req_gather (r := ⟨5, id, xs, grant, num⟩) Hok.out Hv.out rfl)
        have hnum : ∃ q : Nat, num = (q : Int) ∧ q ≤ 20 := by
          have hv := Hv.out
          unfold rqOk bareOk at hv
          dsimp only at hv
          rw [if_neg (by omega), if_neg (by omega), if_neg (by omega), if_pos rfl, Bool.and_eq_true] at hv
          have := inR_iff.1 hv.2
          exact ⟨num.toNat, by omega, by omega⟩
        obtain ⟨q, rfl, hq⟩ := hnum
        go_wp2_with fail
        refine (l32Gather_any A1 A2 n1 c1 n2 c2 q room us w3 (H.out.up B3.out) Hok.out hq).mono ?_; rintro e w4 ⟨A4, m4, c4, A5, m5, c5, rfl, hoc, hb4⟩
        have B4 := qh (below_to B3.out hb4)
        have O4 := qh (hoc.low B3.out.size)
        have Z4 := qh (Z3.out.below hb4 Z3.out.lt)
        clear hb4 hoc y0 y1 q0 q1 q2 q3 q4 P3 Q3
        have x0 := Z4.out.cell 0
        have x1 := Z4.out.cell 1
        simp only [gT, gZ, gS] at x0 x1
        have x2 := Z4.out.frozen 0
        have x3 := Z4.out.frozen 1
        go_wp2_with fail
        have KT := (KeepTU.set_ (Z4.out) (by decide) (by decide) (by decide) 0 (.slice A4 m4 c4)).trans (KeepTU.set_ ((Z4.out).set_ 0 (.slice A4 m4 c4)) (by decide) (by decide) (by decide) 1 (.slice A5 m5 c5))
        have EQ := qh (((Z4.out).set_ 0 (.slice A4 m4 c4)).set_ 1 (.slice A5 m5 c5))
        have B9 := qh (((B4.out).setCell (p := ⟨w.heap.size + 2, 0, none⟩) (by show w.heap.size ≤ w.heap.size + 2; omega) (.slice A4 m4 c4)).setCell (p := ⟨w.heap.size + 2, 1, none⟩) (by show w.heap.size ≤ w.heap.size + 2; omega) (.slice A5 m5 c5))
        have OC := qh ((O4.out).keepTU KT)
        clear KT
        generalize World.setCell (World.setCell w4 ⟨w.heap.size + 2, 0, none⟩ (.slice A4 m4 c4)) ⟨w.heap.size + 2, 1, none⟩ (.slice A5 m5 c5) = w9 at EQ B9 OC ⊢
        have z0 : w9.cell? ⟨w.heap.size + 2, 0, none⟩ = some (.slice A4 m4 c4) := EQ.out.cell 0
        have z1 : w9.cell? ⟨w.heap.size + 2, 1, none⟩ = some (.slice A5 m5 c5) := EQ.out.cell 1
        refine bodyPost_ret (v := .tuple #[.agg #[(.slice A4 m4 c4), (.slice A5 m5 c5)], .int .i64 0]) (by simp [results, Tryz.results27, go_sem, z0, z1]) rfl ⟨_, _, _, _, _, _, by rw [Hp.out], by rw [Hp.out]; exact OC.out, B9.out⟩

theorem playP_bad {room : List Int} {us : List Un} {rs : List Rq} (h : ¬ (clOk room us = true ∧ rs.length ≤ 30)) : playP room us rs = ([], [], []) := play_bad h
theorem rq_take {rs : List Rq} {k : Nat} (h : k < rs.length) : rs.take (k + 1) = rs.take k ++ [rs[k]?.getD ⟨0, 0, [], false, 0⟩] := by
  rw [List.take_succ_eq_append_getElem h, List.getElem?_eq_getElem h]; rfl

set_option maxRecDepth 100000 in
set_option maxHeartbeats 6400000 in
theorem requestsPlaySW_any (A1 A2 A3' : Option Addr) (n1 c1 n2 c2 n3 c3' : Nat) (room : List Int) (us : List Un) (rs : List Rq) (w : World) (h : RdC w A1 A2 n1 n2 room us) (hs : ShV us) (hn1 : n1 ≤ 1048576) (hq : RdQ w w.heap.size A3' n3 rs) :
    Calls Tryz.prog 36 #[.agg #[.slice A1 n1 c1, .slice A2 n2 c2], .slice A3' n3 c3'] w fun e w' => ∃ A4 m4 c4 A5 m5 c5 A6 m6 c6, e = .returned (.tuple #[.agg #[.slice A4 m4 c4, .slice A5 m5 c5], .slice A6 m6 c6]) ∧
      OwnCW w' w.heap.size (.slice A4 m4 c4) (.slice A5 m5 c5) m4 m5 (playP room us rs).1 (playP room us rs).2.1 ∧ RdI w' w'.heap.size A6 m6 (playP room us rs).2.2 ∧ Below w.heap.size w w' := by
  obtain ⟨ii, hii, hiz0, hiz1, hiz2⟩ := info_parts int_info
  have H := qh h
  have HQ := qh hq
  have Hsh := qh hs
  have Hl := qh hq.1
  have hqm := hq.2.1
  clear h hq hs
  have sz : (w.alloc (.cells #[.slice A1 n1 c1, .slice A2 n2 c2] 26)).heap.size = w.heap.size + 1 := World.size_alloc _ _
  have sz2 : ((w.alloc (.cells #[.slice A1 n1 c1, .slice A2 n2 c2] 26)).alloc (.cells #[.slice none 0 0, .slice none 0 0] 26)).heap.size = w.heap.size + 2 := by rw [World.size_alloc, sz]
  have B1 := qh (((alloc_up w (.cells #[.slice A1 n1 c1, .slice A2 n2 c2] 26)).alloc (by rw [sz]; omega) (.cells #[.slice none 0 0, .slice none 0 0] 26)).alloc (by rw [sz2]; omega) (.cells #[] 3))
  have P1 := qh (((Blk.new w 26 #[.slice A1 n1 c1, .slice A2 n2 c2]).alloc (.cells #[.slice none 0 0, .slice none 0 0] 26)).alloc (.cells #[] 3))
  have hZ := (Blk.new (w.alloc (.cells #[.slice A1 n1 c1, .slice A2 n2 c2] 26)) 26 #[.slice none 0 0, .slice none 0 0]).alloc (.cells #[] 3)
  rw [sz] at hZ
  have Z1 := qh hZ
  have hO := World.ownsRow_lit ((w.alloc (.cells #[.slice A1 n1 c1, .slice A2 n2 c2] 26)).alloc (.cells #[.slice none 0 0, .slice none 0 0] 26)) #[] 0 (base := w.heap.size + 2) (e := 3) (size := 1) (by rw [sz2]; omega) (by unfold maxLen; omega) rfl
  rw [sz2] at hO
  have O1 := qh (show (((w.alloc (.cells #[.slice A1 n1 c1, .slice A2 n2 c2] 26)).alloc (.cells #[.slice none 0 0, .slice none 0 0] 26)).alloc (.cells #[] 3)).ownsRow (w.heap.size + 2) 3 1 (.slice (some ⟨w.heap.size + 2, 0, none⟩) 0 0) 0 (([] : List Int).map (Value.int .i64)) from hO)
  clear hZ hO sz sz2
  have y0 := P1.out.cell 0
  have y1 := P1.out.cell 1
  simp only [gT, gZ, gS] at y0 y1
  go_enter Tryz.func36, Tryz.ntmps36
  go_wp2_with fail
  generalize ((w.alloc (.cells #[.slice A1 n1 c1, .slice A2 n2 c2] 26)).alloc (.cells #[.slice none 0 0, .slice none 0 0] 26)).alloc (.cells #[] 3) = w1 at B1 P1 Z1 O1 y0 y1 ⊢
  refine (clusterValidSV_any A1 A2 n1 c1 n2 c2 room us w1 (H.out.up B1.out) Hsh.out).mono ?_; rintro e w2 ⟨rfl, hb2⟩
  have B2 := qh (below_to B1.out hb2)
  have P2 := qh (P1.out.below hb2 P1.out.lt)
  have Z2 := qh (Z1.out.below hb2 Z1.out.lt)
  have O2 := qh (own_up' O1.out hb2)
  clear hb2 y0 y1 B1 P1 Z1 O1
  have y0 := P2.out.cell 0
  have y1 := P2.out.cell 1
  simp only [gT, gZ, gS] at y0 y1
  cases hok : clOk room us with
  | false =>
    have Hp := qh (play_bad (rs := rs) (fun hh => by rw [hok] at hh; cases hh.1))
    have x0 := Z2.out.cell 0
    have x1 := Z2.out.cell 1
    simp only [gT, gZ, gS] at x0 x1
    have x2 := Z2.out.frozen 0
    have x3 := Z2.out.frozen 1
    go_wp2_with fail
    have hk9 : ∀ b, b ≠ w.heap.size + 1 → (World.setCell (World.setCell w2 ⟨w.heap.size + 1, 0, none⟩ (.slice none 0 0)) ⟨w.heap.size + 1, 1, none⟩ (.slice none 0 0)).heap[b]? = w2.heap[b]? := fun b hb => (Below.heap_setCell _ _ _ b hb).trans (Below.heap_setCell _ _ _ b hb)
    have EQ := qh (((Z2.out).set_ 0 (.slice none 0 0)).set_ 1 (.slice none 0 0))
    have B9 := qh (((B2.out).setCell (p := ⟨w.heap.size + 1, 0, none⟩) (by show w.heap.size ≤ w.heap.size + 1; omega) (.slice none 0 0)).setCell (p := ⟨w.heap.size + 1, 1, none⟩) (by show w.heap.size ≤ w.heap.size + 1; omega) (.slice none 0 0))
    have O9 := qh (own_keep O2.out (w' := World.setCell (World.setCell w2 ⟨w.heap.size + 1, 0, none⟩ (.slice none 0 0)) ⟨w.heap.size + 1, 1, none⟩ (.slice none 0 0)) (fun b hb => hk9 b (by have := (O2.out.lt b hb).1; omega)))
    have RC9 := qh (show OwnCW (World.setCell (World.setCell w2 ⟨w.heap.size + 1, 0, none⟩ (.slice none 0 0)) ⟨w.heap.size + 1, 1, none⟩ (.slice none 0 0)) w.heap.size (.slice none 0 0) (.slice none 0 0) 0 0 [] [] from OwnCW.none)
    clear hk9
    generalize World.setCell (World.setCell w2 ⟨w.heap.size + 1, 0, none⟩ (.slice none 0 0)) ⟨w.heap.size + 1, 1, none⟩ (.slice none 0 0) = w9 at EQ B9 O9 RC9 ⊢
    have z0 : w9.cell? ⟨w.heap.size + 1, 0, none⟩ = some (.slice none 0 0) := EQ.out.cell 0
    have z1 : w9.cell? ⟨w.heap.size + 1, 1, none⟩ = some (.slice none 0 0) := EQ.out.cell 1
    refine bodyPost_ret (v := .tuple #[.agg #[(.slice none 0 0), (.slice none 0 0)], .slice (some ⟨w.heap.size + 2, 0, none⟩) 0 0]) (by simp [results, Tryz.results36, go_sem, z0, z1]) rfl ⟨_, _, _, _, _, _, _, _, _, rfl, by rw [Hp.out]; exact RC9.out, by rw [Hp.out]; exact own_rdI O9.out (own_le O9.out), B9.out⟩
  | true =>
    have Hok := qh hok
    clear hok
    by_cases hlen : 30 < n3
    · have g30 : (30 : Int) < (n3 : Int) := by omega
      have Hp := qh (play_bad (room := room) (us := us) (rs := rs) (fun hh => by have := Hl.out; have := hh.2; omega))
      have x0 := Z2.out.cell 0
      have x1 := Z2.out.cell 1
      simp only [gT, gZ, gS] at x0 x1
      have x2 := Z2.out.frozen 0
      have x3 := Z2.out.frozen 1
      go_wp2_with fail
      have hk9 : ∀ b, b ≠ w.heap.size + 1 → (World.setCell (World.setCell w2 ⟨w.heap.size + 1, 0, none⟩ (.slice none 0 0)) ⟨w.heap.size + 1, 1, none⟩ (.slice none 0 0)).heap[b]? = w2.heap[b]? := fun b hb => (Below.heap_setCell _ _ _ b hb).trans (Below.heap_setCell _ _ _ b hb)
      have EQ := qh (((Z2.out).set_ 0 (.slice none 0 0)).set_ 1 (.slice none 0 0))
      have B9 := qh (((B2.out).setCell (p := ⟨w.heap.size + 1, 0, none⟩) (by show w.heap.size ≤ w.heap.size + 1; omega) (.slice none 0 0)).setCell (p := ⟨w.heap.size + 1, 1, none⟩) (by show w.heap.size ≤ w.heap.size + 1; omega) (.slice none 0 0))
      have O9 := qh (own_keep O2.out (w' := World.setCell (World.setCell w2 ⟨w.heap.size + 1, 0, none⟩ (.slice none 0 0)) ⟨w.heap.size + 1, 1, none⟩ (.slice none 0 0)) (fun b hb => hk9 b (by have := (O2.out.lt b hb).1; omega)))
      have RC9 := qh (show OwnCW (World.setCell (World.setCell w2 ⟨w.heap.size + 1, 0, none⟩ (.slice none 0 0)) ⟨w.heap.size + 1, 1, none⟩ (.slice none 0 0)) w.heap.size (.slice none 0 0) (.slice none 0 0) 0 0 [] [] from OwnCW.none)
      clear hk9
      generalize World.setCell (World.setCell w2 ⟨w.heap.size + 1, 0, none⟩ (.slice none 0 0)) ⟨w.heap.size + 1, 1, none⟩ (.slice none 0 0) = w9 at EQ B9 O9 RC9 ⊢
      have z0 : w9.cell? ⟨w.heap.size + 1, 0, none⟩ = some (.slice none 0 0) := EQ.out.cell 0
      have z1 : w9.cell? ⟨w.heap.size + 1, 1, none⟩ = some (.slice none 0 0) := EQ.out.cell 1
      refine bodyPost_ret (v := .tuple #[.agg #[(.slice none 0 0), (.slice none 0 0)], .slice (some ⟨w.heap.size + 2, 0, none⟩) 0 0]) (by simp [results, Tryz.results36, go_sem, z0, z1]) rfl ⟨_, _, _, _, _, _, _, _, _, rfl, by rw [Hp.out]; exact RC9.out, by rw [Hp.out]; exact own_rdI O9.out (own_le O9.out), B9.out⟩
    · have g30 : ¬ (30 : Int) < (n3 : Int) := by omega
      have Hp := qh (play_yes (rs := rs) Hok.out (by have := Hl.out; omega))
      have Hr := qh (fun (u : List Un) (r : Rq) (hu : clOk room u = true) => req_facts (room := room) (us := u) (r := r) hu)
      go_wp2_with fail
      refine (l21Copy_any A1 A2 n1 c1 n2 c2 room us w2 (H.out.up B2.out) (clOk_sh Hok.out) hn1).mono ?_; rintro e w3 ⟨A4, c4, A5, c5, rfl, hoc, hb3⟩
      have al := alloc_up w3 (.cells #[.slice A4 n1 c4, .slice A5 n2 c5] 26)
      have B4 := qh ((below_to B2.out hb3).trans (al.mono (below_to B2.out hb3).size))
      have Z4 := qh ((Z2.out.below hb3 Z2.out.lt).below al (by have := Z2.out.lt; have := hb3.size; omega))
      have O4 := qh (own_up' (own_up' O2.out hb3) al)
      have C4 := qh (((OwnCW.of (OwnCR.of hoc)).low (base' := w.heap.size + 2) (by have := Z2.out.lt; omega)).up al)
      have G4 := qh (Blk.new w3 26 #[.slice A4 n1 c4, .slice A5 n2 c5])
      have lg : w.heap.size + 2 ≤ w3.heap.size := by have := Z2.out.lt; have := hb3.size; have := B2.out.size; omega
      clear al hoc hb3 B2 Z2 O2 P2 y0 y1
      go_wp2_with fail
      generalize w3.heap.size = go at G4 lg ⊢
      generalize w3.alloc (.cells #[.slice A4 n1 c4, .slice A5 n2 c5] 26) = w4 at B4 Z4 O4 C4 G4 ⊢
      go_loopw [6, 8] (fun v kv wr => ∃ (k : Nat) (A6 : Option Addr) (c6 : Nat) (A4 A5 : Option Addr) (m4 c4 m5 c5 : Nat), kv = .int .i64 (k : Nat) ∧ v = .slice A6 k c6 ∧ k ≤ n3 ∧ wr.ownsRow (w.heap.size + 2) 3 1 (.slice A6 k c6) k ((playU room (rs.take k) us).2.map (Value.int .i64)) ∧ OwnCW wr (w.heap.size + 2) (.slice A4 m4 c4) (.slice A5 m5 c5) m4 m5 room (playU room (rs.take k) us).1 ∧
        Blk wr go 26 #[.slice A4 m4 c4, .slice A5 m5 c5] ∧ Blk wr (w.heap.size + 1) 26 #[.slice none 0 0, .slice none 0 0] ∧ Below w.heap.size w wr) (fun _ kv _ => n3 - (intOf kv).toNat)
      case atStart => exact ⟨0, _, _, A4, A5, n1, c4, n2, c5, rfl, rfl, Nat.zero_le _, O4.out, C4.out, G4.out, Z4.out, B4.out⟩
      case round =>
        clear B4 Z4 O4 C4 G4
        obtain ⟨k, A6, c6, A4, A5, m4, c4, m5, c5, rfl, rfl, hk, ho, hc, hg, hz, hb⟩ := hrel
        have HO := qh ho
        have HC := qh hc
        have HG := qh hg
        have HZ := qh hz
        have HB := qh hb
        have hcl := (play_ok (room := room) (rs.take k) us Hok.out).1
        have Hcl := qh hcl
        have Hsc := qh (clOk_sh hcl)
        have hm4 : m4 ≤ 1048576 := by have := hc.rd.a.len; have := (clOk_facts hcl).1; omega
        clear ho hc hg hz hb hcl
        by_cases hlt : k < n3
        · have k1 : (0 : Int) ≤ (k : Int) := by omega
          have k2 : (k : Int) < (n3 : Int) := by omega
          have k3 : 0 ≤ (k : Int) * 5 := by omega
          have vk : IntKind.i64.wrap ((k : Int) + 1) = (k : Int) + 1 := wr64 (by omega) (by omega)
          have hkl : Hid (k < rs.length) := by have := Hl.out; show _ < _; omega
          have Htk := qh ((congrArg (fun l => playU room l us) (rq_take hkl.out)).trans (play_snoc (room := room) (rs.take k) (rs[k]?.getD ⟨0, 0, [], false, 0⟩) us))
          obtain ⟨b, o, rfl, lb, hcell⟩ := (HQ.out.below HB.out).2.2 (by omega)
          obtain ⟨Ar, mr, cr, r0, r1, r2, r3, r4, hmr, hxr⟩ := hcell k hlt
          obtain ⟨us0, hus0⟩ : ∃ u, u = (playU room (rs.take k) us).1 := ⟨_, rfl⟩
          obtain ⟨cs0, hcs0⟩ : ∃ u, u = (playU room (rs.take k) us).2 := ⟨_, rfl⟩
          rw [← hus0] at HC Hcl Hsc Htk
          rw [← hcs0] at HO Htk
          obtain ⟨r, hr⟩ : ∃ r, r = rs[k]?.getD ⟨0, 0, [], false, 0⟩ := ⟨_, rfl⟩
          rw [← hr] at r0 r1 r3 r4 hxr Htk
          have Hmr := qh hmr
          have hbz := HB.out.size
          clear hcell hus0 hcs0 hr hmr
          go_wp2_with fail
          have O5 := qh (World.ownsRow.drew HO.out)
          have C5 := qh (show RdC wr.drew A4 A5 m4 m5 room us0 from ⟨HC.out.rd.a, HC.out.rd.b⟩)
          have G5 := qh HG.out.drew
          have Z5 := qh HZ.out.drew
          have B5 := qh HB.out.drew
          have X5 := qh (show RdI wr.drew wr.drew.heap.size Ar mr r.xs from hxr.more hbz)
          have g0 : wr.drew.cell? ⟨go, 0, none⟩ = some (.slice A4 m4 c4) := HG.out.cell 0
          have g1 : wr.drew.cell? ⟨go, 1, none⟩ = some (.slice A5 m5 c5) := HG.out.cell 1
          have lz5 : w.heap.size ≤ wr.drew.heap.size := hbz
          have lu5 : w.heap.size + 2 ≤ wr.drew.heap.size := by have := HG.out.lt; show _ ≤ wr.heap.size; omega
          clear HO HC HG HZ HB hxr hbz
          refine wp_region_mix (.take 0 (.take 1 (.take 2 (.take 3 (.take 4 (.fork 5 (.take 6 (.take 7 (.take 8 (.bar 9 (.bar 10 (.take 11 .nil)))))) 9 (.bar 5 (.take 6 (.take 7 (.take 8 (.bar 10 (.take 11 .nil)))))))))))) (fun w' => (w'.cell? ⟨go, 0, none⟩ = some (.slice A4 m4 c4) ∧ w'.cell? ⟨go, 1, none⟩ = some (.slice A5 m5 c5)) ∧ w'.cell? ⟨b, o + k * 5, none⟩ = some (.int .i64 r.kind) ∧ w'.cell? ⟨b, o + k * 5 + 1, none⟩ = some (.int .i64 r.id) ∧ w'.cell? ⟨b, o + k * 5 + 2, none⟩ = some (.slice Ar mr cr) ∧ w'.cell? ⟨b, o + k * 5 + 3, none⟩ = some (.bool r.grant) ∧ w'.cell? ⟨b, o + k * 5 + 4, none⟩ = some (.int .i64 r.num)) (by kernel_rfl) (by kernel_rfl) ⟨⟨g0, g1⟩, r0, r1, r2, r3, r4⟩ (fun _ => ?_)
          have lb5 : b < wr.drew.heap.size := by omega
          have hS : Hid (∀ w', Below wr.drew.heap.size wr.drew w' → ((w'.cell? ⟨go, 0, none⟩ = some (.slice A4 m4 c4) ∧ w'.cell? ⟨go, 1, none⟩ = some (.slice A5 m5 c5)) ∧ w'.cell? ⟨b, o + k * 5, none⟩ = some (.int .i64 r.kind) ∧ w'.cell? ⟨b, o + k * 5 + 1, none⟩ = some (.int .i64 r.id) ∧ w'.cell? ⟨b, o + k * 5 + 2, none⟩ = some (.slice Ar mr cr) ∧ w'.cell? ⟨b, o + k * 5 + 3, none⟩ = some (.bool r.grant) ∧ w'.cell? ⟨b, o + k * 5 + 4, none⟩ = some (.int .i64 r.num))) := fun w' hb =>
            ⟨⟨(hb.cell (p := ⟨go, 0, none⟩) G5.out.lt).trans g0, (hb.cell (p := ⟨go, 1, none⟩) G5.out.lt).trans g1⟩, (hb.cell (p := ⟨b, o + k * 5, none⟩) lb5).trans r0, (hb.cell (p := ⟨b, o + k * 5 + 1, none⟩) lb5).trans r1, (hb.cell (p := ⟨b, o + k * 5 + 2, none⟩) lb5).trans r2, (hb.cell (p := ⟨b, o + k * 5 + 3, none⟩) lb5).trans r3, (hb.cell (p := ⟨b, o + k * 5 + 4, none⟩) lb5).trans r4⟩
          clear g0 g1 r0 r1 r2 r3 r4
          generalize wr.drew = u0 at O5 C5 G5 Z5 B5 X5 lz5 lb5 lu5 hS ⊢
          repeat ((first | refine wpMix_skip (by rfl) (by rfl) ?_ | (refine wpMix_take (v := ?_) (by rfl) (by rfl) (fun wS hSt => ?_) ?_; rotate_left; (focus ((try dsimp only at hSt); (go_simp <;> with_reducible rfl); done)))); (try simp only [Act.put, pS, pZ, pC]))
          refine wpMix_fork (by rfl) (by rfl) (fun K hK => ?_) (fun K hK => ?_)
          go_simp
          refine (requestDoS_any A4 A5 Ar m4 c4 m5 c5 mr cr room us0 r u0 C5.out Hsc.out.v hm4 X5.out Hmr.out).mono ?_; rintro e w6 ⟨A7, m7, c7, A8, m8, c8, rfl, hoc, hb6⟩
          have D6 := qh hb6
          have OC6 := qh hoc
          clear hoc hb6
          ((try dsimp only); refine nxK hK _ _ (hS.out _ D6.out) ?_; clear hK K; (try simp only [Act.put, pS, pZ, pC]))
          repeat ((first | refine wpMix_skip (by rfl) (by rfl) ?_ | (refine wpMix_take (v := ?_) (by rfl) (by rfl) (fun wS hSt => ?_) ?_; rotate_left; (focus ((try dsimp only at hSt); (go_simp <;> with_reducible rfl); done)))); (try simp only [Act.put, pS, pZ, pC]))
          have al := alloc_up w6 (.cells #[.slice none 0 0, .slice none 0 0] 26)
          have D7 := qh (D6.out.trans (al.mono D6.out.size))
          have OC7 := qh (OC6.out.up al)
          have X7 := qh (Blk.new w6 26 #[.slice none 0 0, .slice none 0 0])
          have lx := D6.out.size
          clear al D6 OC6
          (refine wpMix_bar (by rfl) (fun K hK => ?_); go_simp)
          ((try dsimp only); refine nxK hK _ _ (hS.out _ D7.out) ?_; clear hK K; (try simp only [Act.put, pS, pZ, pC]))
          generalize w6.heap.size = gx at X7 lx ⊢
          generalize w6.alloc (.cells #[.slice none 0 0, .slice none 0 0] 26) = w7 at X7 D7 OC7 ⊢
          have x0 := X7.out.cell 0
          have x1 := X7.out.cell 1
          simp only [gT, gZ, gS] at x0 x1
          have x2 := X7.out.frozen 0
          have x3 := X7.out.frozen 1
          (refine wpMix_bar (by rfl) (fun K hK => ?_); go_simp)
          have KT := (KeepTU.set_ (X7.out) (by decide) (by decide) (by decide) 0 (.slice A7 m7 c7)).trans (KeepTU.set_ ((X7.out).set_ 0 (.slice A7 m7 c7)) (by decide) (by decide) (by decide) 1 (.slice A8 m8 c8))
          have HX := qh (((X7.out).set_ 0 (.slice A7 m7 c7)).set_ 1 (.slice A8 m8 c8))
          have HD := qh ((D7.out.setCell (p := ⟨gx, 0, none⟩) (by show u0.heap.size ≤ gx; omega) (.slice A7 m7 c7)).setCell (p := ⟨gx, 1, none⟩) (by show u0.heap.size ≤ gx; omega) (.slice A8 m8 c8))
          have HOC := qh (OC7.out.keepTU KT)
          clear KT x0 x1 x2 x3
          ((try dsimp only); refine nxK hK _ _ (hS.out _ HD.out) ?_; clear hK K; (try simp only [Act.put, pS, pZ, pC]))
          generalize World.setCell (World.setCell w7 ⟨gx, 0, none⟩ (.slice A7 m7 c7)) ⟨gx, 1, none⟩ (.slice A8 m8 c8) = wz at HX HD HOC ⊢
          repeat ((first | refine wpMix_skip (by rfl) (by rfl) ?_ | (refine wpMix_take (v := ?_) (by rfl) (by rfl) (fun wS hSt => ?_) ?_; rotate_left; (focus ((try dsimp only at hSt); (go_simp <;> with_reducible rfl); done)))); (try simp only [Act.put, pS, pZ, pC]))
          refine wpMix_nil ?_
          clear X7 D7 OC7
          rotate_left
          have D6 := qh (alloc_up u0 (.cells #[.slice none 0 0, .slice none 0 0] 26))
          have X6 := qh (Blk.new u0 26 #[.slice none 0 0, .slice none 0 0])
          have lx := Nat.le_refl u0.heap.size
          go_simp
          ((try dsimp only); refine nxK hK _ _ (hS.out _ D6.out) ?_; clear hK K; (try simp only [Act.put, pS, pZ, pC]))
          generalize hgx : u0.heap.size = gx at X6 ⊢
          replace lx : u0.heap.size ≤ gx := by omega
          clear hgx
          generalize u0.alloc (.cells #[.slice none 0 0, .slice none 0 0] 26) = w6 at X6 D6 ⊢
          (refine wpMix_bar (by rfl) (fun K hK => ?_); go_simp)
          refine (requestDoS_any A4 A5 Ar m4 c4 m5 c5 mr cr room us0 r w6 (C5.out.up D6.out) Hsc.out.v hm4 (X5.out.up D6.out) Hmr.out).mono ?_; rintro e w7 ⟨A7, m7, c7, A8, m8, c8, rfl, hoc, hb7⟩
          have D7 := qh (below_to D6.out hb7)
          have OC7 := qh (hoc.low D6.out.size)
          have X7 := qh (X6.out.below hb7 X6.out.lt)
          clear hoc hb7 D6 X6
          ((try dsimp only); refine nxK hK _ _ (hS.out _ D7.out) ?_; clear hK K; (try simp only [Act.put, pS, pZ, pC]))
          repeat ((first | refine wpMix_skip (by rfl) (by rfl) ?_ | (refine wpMix_take (v := ?_) (by rfl) (by rfl) (fun wS hSt => ?_) ?_; rotate_left; (focus ((try dsimp only at hSt); (go_simp <;> with_reducible rfl); done)))); (try simp only [Act.put, pS, pZ, pC]))
          have x0 := X7.out.cell 0
          have x1 := X7.out.cell 1
          simp only [gT, gZ, gS] at x0 x1
          have x2 := X7.out.frozen 0
          have x3 := X7.out.frozen 1
          (refine wpMix_bar (by rfl) (fun K hK => ?_); go_simp)
          have KT := (KeepTU.set_ (X7.out) (by decide) (by decide) (by decide) 0 (.slice A7 m7 c7)).trans (KeepTU.set_ ((X7.out).set_ 0 (.slice A7 m7 c7)) (by decide) (by decide) (by decide) 1 (.slice A8 m8 c8))
          have HX := qh (((X7.out).set_ 0 (.slice A7 m7 c7)).set_ 1 (.slice A8 m8 c8))
          have HD := qh ((D7.out.setCell (p := ⟨gx, 0, none⟩) (by show u0.heap.size ≤ gx; omega) (.slice A7 m7 c7)).setCell (p := ⟨gx, 1, none⟩) (by show u0.heap.size ≤ gx; omega) (.slice A8 m8 c8))
          have HOC := qh (OC7.out.keepTU KT)
          clear KT x0 x1 x2 x3
          ((try dsimp only); refine nxK hK _ _ (hS.out _ HD.out) ?_; clear hK K; (try simp only [Act.put, pS, pZ, pC]))
          generalize World.setCell (World.setCell w7 ⟨gx, 0, none⟩ (.slice A7 m7 c7)) ⟨gx, 1, none⟩ (.slice A8 m8 c8) = wz at HX HD HOC ⊢
          repeat ((first | refine wpMix_skip (by rfl) (by rfl) ?_ | (refine wpMix_take (v := ?_) (by rfl) (by rfl) (fun wS hSt => ?_) ?_; rotate_left; (focus ((try dsimp only at hSt); (go_simp <;> with_reducible rfl); done)))); (try simp only [Act.put, pS, pZ, pC]))
          refine wpMix_nil ?_
          clear X7 D7 OC7
          rotate_left
          all_goals
            have hlc := own_len O5.out
            have G6 := qh (G5.out.below HD.out G5.out.lt)
            have Z6 := qh (Z5.out.below HD.out Z5.out.lt)
            have O6 := qh (own_keep O5.out (fun b hb => HD.out.block b (O5.out.lt b hb).2))
            have B6 := qh (B5.out.trans (HD.out.mono lz5))
            have hcod := qh (fun b (hb : (Value.slice A6 k c6).ownBlock = some b) => (O5.out.lt b hb).2)
            have lgo := G5.out.lt
            clear hS G5 Z5 O5 B5 C5 X5 HD
            have g0 := G6.out.cell 0
            have g1 := G6.out.cell 1
            have x0 := HX.out.cell 0
            have x1 := HX.out.cell 1
            simp at g0 g1 x0 x1
            have g2 := G6.out.frozen 0
            have g3 := G6.out.frozen 1
            obtain ⟨code, hcode⟩ : ∃ q, q = (reqP room us0 r).2.2 := ⟨_, rfl⟩
            rw [← hcode]
            rw [← hcode] at Htk
            clear hcode
            have KT := (KeepTU.set_ (G6.out) (by decide) (by decide) (by decide) 0 (.slice A7 m7 c7)).trans (KeepTU.set_ ((G6.out).set_ 0 (.slice A7 m7 c7)) (by decide) (by decide) (by decide) 1 (.slice A8 m8 c8))
            have hk9 : ∀ b, b ≠ go → (World.setCell (World.setCell wz ⟨go, 0, none⟩ (.slice A7 m7 c7)) ⟨go, 1, none⟩ (.slice A8 m8 c8)).heap[b]? = wz.heap[b]? := fun b hb => (Below.heap_setCell _ _ _ b hb).trans (Below.heap_setCell _ _ _ b hb)
            have sz9 : (World.setCell (World.setCell wz ⟨go, 0, none⟩ (.slice A7 m7 c7)) ⟨go, 1, none⟩ (.slice A8 m8 c8)).heap.size = wz.heap.size := by simp [World.setCell]
            have al := alloc_up (World.setCell (World.setCell wz ⟨go, 0, none⟩ (.slice A7 m7 c7)) ⟨go, 1, none⟩ (.slice A8 m8 c8)) (.cells #[.int .i64 code] 3)
            have B7 := qh ((B6.out.setCell (p := ⟨go, 0, none⟩) (by show w.heap.size ≤ go; omega) (.slice A7 m7 c7)).setCell (p := ⟨go, 1, none⟩) (by show w.heap.size ≤ go; omega) (.slice A8 m8 c8))
            have B8 := qh (B7.out.trans (al.mono B7.out.size))
            have O8 := qh (own_up' (own_keep O6.out (w' := World.setCell (World.setCell wz ⟨go, 0, none⟩ (.slice A7 m7 c7)) ⟨go, 1, none⟩ (.slice A8 m8 c8)) (fun b hb => hk9 b (fun e => own_blk_ne O6.out G6.out (by decide) (by rw [hb, e])))) al)
            have G8 := qh ((((G6.out).set_ 0 (.slice A7 m7 c7)).set_ 1 (.slice A8 m8 c8)).alloc (.cells #[.int .i64 code] 3))
            have Z8 := qh (show Blk ((World.setCell (World.setCell wz ⟨go, 0, none⟩ (.slice A7 m7 c7)) ⟨go, 1, none⟩ (.slice A8 m8 c8)).alloc (.cells #[.int .i64 code] 3)) (w.heap.size + 1) 26 #[.slice none 0 0, .slice none 0 0] from (Blk.alloc ((hk9 _ (by omega)).trans Z6.out) _))
            have OC8 := qh ((HOC.out.keepTU KT).up al)
            have s8 := lit1 (World.setCell (World.setCell wz ⟨go, 0, none⟩ (.slice A7 m7 c7)) ⟨go, 1, none⟩ (.slice A8 m8 c8)) 3 (.int .i64 code)
            rw [sz9] at s8
            have S8 := qh s8
            have lz8 : w.heap.size + 2 ≤ ((World.setCell (World.setCell wz ⟨go, 0, none⟩ (.slice A7 m7 c7)) ⟨go, 1, none⟩ (.slice A8 m8 c8)).alloc (.cells #[.int .i64 code] 3)).heap.size := by have := G8.out.lt; omega
            clear KT hk9 sz9 al B6 B7 O6 G6 Z6 HOC s8
            go_wp2_with (at_builtin; refine wpList_append_src _ rfl _ _ 23 rfl (w.heap.size + 2) 3 ii _ 1 8 Tryz.underlying23 hii hiz0 hiz1 hiz2 rfl (by omega) (.slice A6 k c6) k _ rfl O8.out (some ⟨wz.heap.size, 0, none⟩) 1 1 [.int .i64 code] rfl S8.out (one1 _ rfl) (by unfold maxLen; omega) (by omega) lz8 ?_; intro v' wn hown6 hgrow6 hat6; obtain ⟨A9, c9, rfl⟩ := own_shape hown6)
            have Bn := qh (B8.out.grown hgrow6 B8.out.size (fun a e => by have := (O8.out.lt a e).1; omega))
            have Gn := qh (G8.out.grown hgrow6 (fun e => own_blk_ne O8.out G8.out (by decide) e.symm))
            have Zn := qh (Z8.out.grown hgrow6 (fun e => own_blk_ne O8.out Z8.out (by decide) e.symm))
            have OCn := qh (OC8.out.keepR (w' := wn) (fun b hb hlt => hgrow6.block b hlt (fun e => by have := hcod.out b e.symm; omega)))
            have On := qh hown6
            have Hf := Hr.out us0 r Hcl.out
            clear hown6 hgrow6 hat6 g0 g1 g2 g3 x0 x1
            go_wp2_with fail
            go_roundw
            case measure => simp [intOf]; omega
            case rel =>
              have hc := OCn.out.low (base' := w.heap.size + 2) (by omega)
              rw [Hf.1] at hc
              refine ⟨k + 1, A9, c9, A7, A8, m7, c7, m8, c8, by go_num, rfl, by omega, ?_, ?_, Gn.out, Zn.out, Bn.out⟩
              · rw [Htk.out, List.map_append]; exact On.out
              · rw [Htk.out]; exact hc
        · obtain rfl : k = n3 := by omega
          have Heq : Hid (rs.take k = rs) := List.take_of_length_le (by rw [Hl.out]; exact Nat.le_refl _)
          rw [Heq.out] at HO HC
          have g0 := HG.out.cell 0
          have g1 := HG.out.cell 1
          simp only [gT, gZ, gS] at g0 g1
          have x0 := HZ.out.cell 0
          have x1 := HZ.out.cell 1
          simp only [gT, gZ, gS] at x0 x1
          have x2 := HZ.out.frozen 0
          have x3 := HZ.out.frozen 1
          go_wp2_with fail
          have hk9 : ∀ b, b ≠ w.heap.size + 1 → (World.setCell (World.setCell wr ⟨w.heap.size + 1, 0, none⟩ (.slice A4 m4 c4)) ⟨w.heap.size + 1, 1, none⟩ (.slice A5 m5 c5)).heap[b]? = wr.heap[b]? := fun b hb => (Below.heap_setCell _ _ _ b hb).trans (Below.heap_setCell _ _ _ b hb)
          have EQ := qh (((HZ.out).set_ 0 (.slice A4 m4 c4)).set_ 1 (.slice A5 m5 c5))
          have B9 := qh (((HB.out).setCell (p := ⟨w.heap.size + 1, 0, none⟩) (by show w.heap.size ≤ w.heap.size + 1; omega) (.slice A4 m4 c4)).setCell (p := ⟨w.heap.size + 1, 1, none⟩) (by show w.heap.size ≤ w.heap.size + 1; omega) (.slice A5 m5 c5))
          have O9 := qh (own_keep HO.out (w' := World.setCell (World.setCell wr ⟨w.heap.size + 1, 0, none⟩ (.slice A4 m4 c4)) ⟨w.heap.size + 1, 1, none⟩ (.slice A5 m5 c5)) (fun b hb => hk9 b (by have := (HO.out.lt b hb).1; omega)))
          have RC9 := qh (show OwnCW (World.setCell (World.setCell wr ⟨w.heap.size + 1, 0, none⟩ (.slice A4 m4 c4)) ⟨w.heap.size + 1, 1, none⟩ (.slice A5 m5 c5)) w.heap.size (.slice A4 m4 c4) (.slice A5 m5 c5) m4 m5 room (playU room rs us).1 from ((HC.out.keepR (w' := World.setCell (World.setCell wr ⟨w.heap.size + 1, 0, none⟩ (.slice A4 m4 c4)) ⟨w.heap.size + 1, 1, none⟩ (.slice A5 m5 c5)) (fun b hb _ => hk9 b (by omega))).low (by omega)))
          clear hk9
          generalize World.setCell (World.setCell wr ⟨w.heap.size + 1, 0, none⟩ (.slice A4 m4 c4)) ⟨w.heap.size + 1, 1, none⟩ (.slice A5 m5 c5) = w9 at EQ B9 O9 RC9 ⊢
          have z0 : w9.cell? ⟨w.heap.size + 1, 0, none⟩ = some (.slice A4 m4 c4) := EQ.out.cell 0
          have z1 : w9.cell? ⟨w.heap.size + 1, 1, none⟩ = some (.slice A5 m5 c5) := EQ.out.cell 1
          refine bodyPost_ret (v := .tuple #[.agg #[(.slice A4 m4 c4), (.slice A5 m5 c5)], .slice A6 k c6]) (by simp [results, Tryz.results36, go_sem, z0, z1]) rfl ⟨_, _, _, _, _, _, _, _, _, rfl, by rw [Hp.out]; exact RC9.out, by rw [Hp.out]; exact own_rdI O9.out (own_le O9.out), B9.out⟩

theorem requestsPlayS_any (A1 A2 A3' : Option Addr) (n1 c1 n2 c2 n3 c3' : Nat) (room : List Int) (us : List Un) (rs : List Rq) (w : World) (h : RdC w A1 A2 n1 n2 room us) (hs : ShV us) (hn1 : n1 ≤ 1048576) (hq : RdQ w w.heap.size A3' n3 rs) :
    Calls Tryz.prog 36 #[.agg #[.slice A1 n1 c1, .slice A2 n2 c2], .slice A3' n3 c3'] w fun e w' => ∃ A4 m4 c4 A5 m5 c5 A6 m6 c6, e = .returned (.tuple #[.agg #[.slice A4 m4 c4, .slice A5 m5 c5], .slice A6 m6 c6]) ∧
      RdC w' A4 A5 m4 m5 (playP room us rs).1 (playP room us rs).2.1 ∧ RdI w' w'.heap.size A6 m6 (playP room us rs).2.2 ∧ Below w.heap.size w w' :=
  (requestsPlaySW_any A1 A2 A3' n1 c1 n2 c2 n3 c3' room us rs w h hs hn1 hq).mono fun e w' ⟨A4, m4, c4, A5, m5, c5, A6, m6, c6, he, h1, h2, h3⟩ => ⟨A4, m4, c4, A5, m5, c5, A6, m6, c6, he, h1.rd, h2, h3⟩
end Go.Proofs.YtlegpecjoaklnaaGreatDoor
