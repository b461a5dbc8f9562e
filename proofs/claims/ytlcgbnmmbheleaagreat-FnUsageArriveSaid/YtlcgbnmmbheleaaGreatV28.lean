/- Several texts in one. -/
import Derived.Test.YtlcgbnmmbheleaaGreatClArrive
namespace Go.Proofs.YtlcgbnmmbheleaaGreat
open Go Go.RowKit
attribute [local go_sem ↓] Go.wp_at_zero Go.wp_at_succ

def cavP (room : List Int) (us : List Un) (id : Int) (xs : List Int) (g : Bool) : List Int × List Un × Int :=
  if clOk room us = true then (if tasksOk room [(id, xs)] = true then (if 0 ≤ whereP (us.map (·.2)) id then (room, us, 2) else (room, (arvP room us id xs g).1, (arvP room us id xs g).2)) else (room, us, 1)) else ([], [], 1)
section
variable {room : List Int} {us : List Un} {id : Int} {xs : List Int} {g : Bool} {k : Nat}
theorem cavP_bad (h : clOk room us = false) : cavP room us id xs g = ([], [], 1) := by unfold cavP; rw [if_neg (by rw [h]; simp)]
theorem cavP_task (h : clOk room us = true) (h' : tasksOk room [(id, xs)] = false) : cavP room us id xs g = (room, us, 1) := by unfold cavP; rw [if_pos h, if_neg (by rw [h']; simp)]
theorem cavP_twice (h : clOk room us = true) (h' : tasksOk room [(id, xs)] = true) (hw : whereP (us.map (·.2)) id = (k : Int)) : cavP room us id xs g = (room, us, 2) := by unfold cavP; rw [if_pos h, if_pos h', if_pos (by omega)]
theorem cavP_new (h : clOk room us = true) (h' : tasksOk room [(id, xs)] = true) (hw : whereP (us.map (·.2)) id = -1) : cavP room us id xs g = (room, (arvP room us id xs g).1, (arvP room us id xs g).2) := by unfold cavP; rw [if_pos h, if_pos h', if_neg (by omega)]
theorem tkOne {w : World} {B m c : Nat} {A : Option Addr} (h : RdI w B A m xs) (hc : m ≤ c) : TkCells w B [.int .i64 id, .slice A m c] [(id, xs)] := ⟨rfl, fun j hj => by
  have e : j = 0 := by simp at hj; exact hj
  subst e
  exact ⟨A, m, c, rfl, rfl, hc, h⟩⟩
theorem whereP_or' (bs : List (List Tk)) (id : Int) : whereP bs id = -1 ∨ ∃ k : Nat, whereP bs id = (k : Int) := by
  unfold whereP
  cases h : bs.findIdx? (fun b => hasP b id) with
  | none => exact .inl rfl
  | some i => exact .inr ⟨i, rfl⟩
end

set_option maxRecDepth 100000 in
set_option maxHeartbeats 3200000 in
theorem clusterArrive_any (A1 A2 A3 : Option Addr) (n1 c1 n2 c2 n3 c3 : Nat) (room : List Int) (us : List Un) (id : Int) (xs : List Int) (g : Bool) (w : World) (h : RdC w A1 A2 n1 n2 room us) (hs : ShU us) (hn1 : n1 ≤ 1048576) (hx : RdI w w.heap.size A3 n3 xs) (hc3 : n3 ≤ c3) :
    Calls Tryz.prog 40 #[.agg #[.slice A1 n1 c1, .slice A2 n2 c2], .agg #[.int .i64 id, .slice A3 n3 c3], .bool g] w fun e w' => ∃ A4 m4 c4 A5 m5 c5, e = .returned (.tuple #[.agg #[.slice A4 m4 c4, .slice A5 m5 c5], .int .i64 (cavP room us id xs g).2.2]) ∧ OwnCR w' w.heap.size (.slice A4 m4 c4) (.slice A5 m5 c5) m4 m5 (cavP room us id xs g).1 (cavP room us id xs g).2.1 ∧ Below w.heap.size w w' := by
  have hl := qh h.b.len
  have H := qh h
  have Hsh := qh hs
  have HX := qh hx
  have ln : n2 ≤ 1000 := by have := h.b.len; have := hs.1; omega
  have sz : (w.alloc (.cells #[.slice A1 n1 c1, .slice A2 n2 c2] 26)).heap.size = w.heap.size + 1 := World.size_alloc _ _
  have sz2 : ((w.alloc (.cells #[.slice A1 n1 c1, .slice A2 n2 c2] 26)).alloc (.cells #[.int .i64 id, .slice A3 n3 c3] 40)).heap.size = w.heap.size + 2 := by rw [World.size_alloc, sz]
  have B1 := qh (((alloc_up w (.cells #[.slice A1 n1 c1, .slice A2 n2 c2] 26)).alloc (by rw [sz]; omega) (.cells #[.int .i64 id, .slice A3 n3 c3] 40)).alloc (by rw [sz2]; omega) (.cells #[.slice none 0 0, .slice none 0 0] 26))
  have P1 := qh (((Blk.new w 26 #[.slice A1 n1 c1, .slice A2 n2 c2]).alloc (.cells #[.int .i64 id, .slice A3 n3 c3] 40)).alloc (.cells #[.slice none 0 0, .slice none 0 0] 26))
  have hT := (Blk.new (w.alloc (.cells #[.slice A1 n1 c1, .slice A2 n2 c2] 26)) 40 #[.int .i64 id, .slice A3 n3 c3]).alloc (.cells #[.slice none 0 0, .slice none 0 0] 26)
  rw [sz] at hT
  have T1 := qh hT
  have hZ := Blk.new ((w.alloc (.cells #[.slice A1 n1 c1, .slice A2 n2 c2] 26)).alloc (.cells #[.int .i64 id, .slice A3 n3 c3] 40)) 26 #[.slice none 0 0, .slice none 0 0]
  rw [sz2] at hZ
  have Z1 := qh hZ
  clear h hs hx hT hZ sz sz2
  have y0 := (P1.out).cell 0
  have y1 := (P1.out).cell 1
  simp only [gT, gZ, gS] at y0 y1
  have y2 := (P1.out).frozen 0
  have y3 := (P1.out).frozen 1
  go_enter Tryz.func40, Tryz.ntmps40
  go_wp2_with fail
  generalize ((w.alloc (.cells #[.slice A1 n1 c1, .slice A2 n2 c2] 26)).alloc (.cells #[.int .i64 id, .slice A3 n3 c3] 40)).alloc (.cells #[.slice none 0 0, .slice none 0 0] 26) = w1 at B1 P1 T1 Z1 y0 y1 y2 y3 ⊢
  refine (clusterValidS_any A1 A2 n1 c1 n2 c2 room us w1 (H.out.up B1.out) Hsh.out).mono ?_; rintro e w2 ⟨rfl, hb2⟩
  have B2 := qh (below_to B1.out hb2)
  have P2 := qh (P1.out.below hb2 P1.out.lt)
  have T2 := qh (T1.out.below hb2 T1.out.lt)
  have Z2 := qh (Z1.out.below hb2 Z1.out.lt)
  clear hb2 y0 y1 y2 y3 B1 P1 T1 Z1
  have y0 := (P2.out).cell 0
  have y1 := (P2.out).cell 1
  simp only [gT, gZ, gS] at y0 y1
  have y2 := (P2.out).frozen 0
  have y3 := (P2.out).frozen 1
  have t0 := (T2.out).cell 0
  have t1 := (T2.out).cell 1
  simp only [gT, gZ, gS] at t0 t1
  have t2 := (T2.out).frozen 0
  have t3 := (T2.out).frozen 1
  cases hok : clOk room us with
  | false =>
    have Hp := qh (cavP_bad (id := id) (xs := xs) (g := g) hok)
    have x0 := (Z2.out).cell 0
    have x1 := (Z2.out).cell 1
    simp only [gT, gZ, gS] at x0 x1
    have x2 := (Z2.out).frozen 0
    have x3 := (Z2.out).frozen 1
    go_wp2_with fail
    have KT := (KeepTU.set_ (Z2.out) (by decide) (by decide) (by decide) 0 (.slice none 0 0)).trans (KeepTU.set_ ((Z2.out).set_ 0 (.slice none 0 0)) (by decide) (by decide) (by decide) 1 (.slice none 0 0))
    have EQ := qh (((Z2.out).set_ 0 (.slice none 0 0)).set_ 1 (.slice none 0 0))
    have B9 := qh (((B2.out).setCell (p := ⟨w.heap.size + 2, 0, none⟩) (by show w.heap.size ≤ w.heap.size + 2; omega) (.slice none 0 0)).setCell (p := ⟨w.heap.size + 2, 1, none⟩) (by show w.heap.size ≤ w.heap.size + 2; omega) (.slice none 0 0))
    have OC := qh (((OwnCR.none : OwnCR w2 w.heap.size (.slice none 0 0) (.slice none 0 0) 0 0 [] [])).keepTU KT)
    clear KT
    generalize World.setCell (World.setCell w2 ⟨w.heap.size + 2, 0, none⟩ (.slice none 0 0)) ⟨w.heap.size + 2, 1, none⟩ (.slice none 0 0) = w9 at EQ B9 OC ⊢
    have z0 : w9.cell? ⟨w.heap.size + 2, 0, none⟩ = some (.slice none 0 0) := EQ.out.cell 0
    have z1 : w9.cell? ⟨w.heap.size + 2, 1, none⟩ = some (.slice none 0 0) := EQ.out.cell 1
    refine bodyPost_ret (v := .tuple #[.agg #[(.slice none 0 0), (.slice none 0 0)], .int .i64 1]) (by simp [results, Tryz.results40, go_sem, z0, z1]) rfl ⟨none, 0, 0, none, 0, 0, by rw [Hp.out], ?_, B9.out⟩
    rw [Hp.out]
    exact OC.out
  | true =>
    have Hok := qh hok
    clear hok
    go_wp2_with fail
    refine (l21Copy_any A1 A2 n1 c1 n2 c2 room us w2 (H.out.up B2.out) Hsh.out hn1).mono ?_; rintro e w3 ⟨A6, c6, A4, c4, rfl, hoc, hb3⟩
    have d4 := below_to hb3 (alloc_up w3 (.cells #[.slice A6 n1 c6, .slice A4 n2 c4] 26))
    have B4 := qh (below_to B2.out d4)
    have P4 := qh (P2.out.below d4 P2.out.lt)
    have T4 := qh (T2.out.below d4 T2.out.lt)
    have Z4 := qh (Z2.out.below d4 Z2.out.lt)
    have Q4 := qh (Blk.new w3 26 #[.slice A6 n1 c6, .slice A4 n2 c4])
    have OC4 := qh (((OwnCR.of hoc).low B2.out.size).keepTU (KeepTU.up (alloc_up w3 (.cells #[.slice A6 n1 c6, .slice A4 n2 c4] 26))))
    clear hoc hb3 d4 y0 y1 y2 y3 t0 t1 t2 t3 B2 P2 T2 Z2
    have lg : (w3.alloc (.cells #[.slice A6 n1 c6, .slice A4 n2 c4] 26)).heap.size = w3.heap.size + 1 := World.size_alloc _ _
    have y0 := (P4.out).cell 0
    have y1 := (P4.out).cell 1
    simp only [gT, gZ, gS] at y0 y1
    have y2 := (P4.out).frozen 0
    have y3 := (P4.out).frozen 1
    have t0 := (T4.out).cell 0
    have t1 := (T4.out).cell 1
    simp only [gT, gZ, gS] at t0 t1
    have t2 := (T4.out).frozen 0
    have t3 := (T4.out).frozen 1
    have q0 := (Q4.out).cell 0
    have q1 := (Q4.out).cell 1
    simp only [gT, gZ, gS] at q0 q1
    have q2 := (Q4.out).frozen 0
    have q3 := (Q4.out).frozen 1
    go_wp2_with fail
    generalize hg6 : w3.heap.size = g6 at Q4 q0 q1 q2 q3 lg ⊢
    clear hg6
    generalize w3.alloc (.cells #[.slice A6 n1 c6, .slice A4 n2 c4] 26) = w4 at B4 P4 T4 Z4 Q4 OC4 lg y0 y1 y2 y3 t0 t1 t2 t3 q0 q1 q2 q3 ⊢
    clear y0 y1 y2 y3 t0 t1 t2 t3 q0 q1 q2 q3
    have d5 := alloc_up w4 (.cells #[.int .i64 id, .slice A3 n3 c3] 40)
    have B5 := qh (below_to B4.out d5)
    have P5 := qh (P4.out.below d5 P4.out.lt)
    have T5 := qh (T4.out.below d5 T4.out.lt)
    have Z5 := qh (Z4.out.below d5 Z4.out.lt)
    have Q5 := qh (Q4.out.below d5 Q4.out.lt)
    have OC5 := qh (OC4.out.keepTU (KeepTU.up d5))
    have hR := (RdT.of_own (own_built (w := w4) (base := w.heap.size) 40 (.int .i64 id) (.slice A3 n3 c3) B4.out.size) (tkOne (id := id) (HX.out.below B5.out) hc3) B5.out.size (by omega))
    rw [lg] at hR
    have R5 := qh hR
    clear d5 B4 P4 T4 Z4 Q4 OC4 lg hR
    generalize w4.alloc (.cells #[.int .i64 id, .slice A3 n3 c3] 40) = w5 at B5 P5 T5 Z5 Q5 OC5 R5 ⊢
    refine (tasksValidS_any A1 (some ⟨g6 + 1, 0, none⟩) n1 c1 1 1 room [(id, xs)] w5 (H.out.up B5.out).a R5.out).mono ?_; rintro e w6 ⟨rfl, m6, rfl⟩
    have B6 := qh (below_drewN B5.out m6)
    have P6 := qh (P5.out.drewN m6)
    have T6 := qh (T5.out.drewN m6)
    have Z6 := qh (Z5.out.drewN m6)
    have Q6 := qh (Q5.out.drewN m6)
    have OC6 := qh (show OwnCR (w5.drewN m6) w.heap.size (.slice A6 n1 c6) (.slice A4 n2 c4) n1 n2 room us from OC5.out.keepTU (fun _ _ => rfl))
    clear B5 P5 T5 Z5 Q5 OC5 R5
    generalize w5.drewN m6 = w6 at B6 P6 T6 Z6 Q6 OC6 ⊢
    have y0 := (P6.out).cell 0
    have y1 := (P6.out).cell 1
    simp only [gT, gZ, gS] at y0 y1
    have y2 := (P6.out).frozen 0
    have y3 := (P6.out).frozen 1
    have t0 := (T6.out).cell 0
    have t1 := (T6.out).cell 1
    simp only [gT, gZ, gS] at t0 t1
    have t2 := (T6.out).frozen 0
    have t3 := (T6.out).frozen 1
    have q0 := (Q6.out).cell 0
    have q1 := (Q6.out).cell 1
    simp only [gT, gZ, gS] at q0 q1
    have q2 := (Q6.out).frozen 0
    have q3 := (Q6.out).frozen 1
    cases htk : tasksOk room [(id, xs)] with
    | false =>
      have Hp := qh (cavP_task (g := g) Hok.out htk)
      have x0 := (Z6.out).cell 0
      have x1 := (Z6.out).cell 1
      simp only [gT, gZ, gS] at x0 x1
      have x2 := (Z6.out).frozen 0
      have x3 := (Z6.out).frozen 1
      go_wp2_with fail
      have KT := (KeepTU.set_ (Z6.out) (by decide) (by decide) (by decide) 0 (.slice A6 n1 c6)).trans (KeepTU.set_ ((Z6.out).set_ 0 (.slice A6 n1 c6)) (by decide) (by decide) (by decide) 1 (.slice A4 n2 c4))
      have EQ := qh (((Z6.out).set_ 0 (.slice A6 n1 c6)).set_ 1 (.slice A4 n2 c4))
      have B9 := qh (((B6.out).setCell (p := ⟨w.heap.size + 2, 0, none⟩) (by show w.heap.size ≤ w.heap.size + 2; omega) (.slice A6 n1 c6)).setCell (p := ⟨w.heap.size + 2, 1, none⟩) (by show w.heap.size ≤ w.heap.size + 2; omega) (.slice A4 n2 c4))
      have OC := qh ((OC6.out).keepTU KT)
      clear KT
      generalize World.setCell (World.setCell w6 ⟨w.heap.size + 2, 0, none⟩ (.slice A6 n1 c6)) ⟨w.heap.size + 2, 1, none⟩ (.slice A4 n2 c4) = w9 at EQ B9 OC ⊢
      have z0 : w9.cell? ⟨w.heap.size + 2, 0, none⟩ = some (.slice A6 n1 c6) := EQ.out.cell 0
      have z1 : w9.cell? ⟨w.heap.size + 2, 1, none⟩ = some (.slice A4 n2 c4) := EQ.out.cell 1
      refine bodyPost_ret (v := .tuple #[.agg #[(.slice A6 n1 c6), (.slice A4 n2 c4)], .int .i64 1]) (by simp [results, Tryz.results40, go_sem, z0, z1]) rfl ⟨A6, n1, c6, A4, n2, c4, by rw [Hp.out], ?_, B9.out⟩
      rw [Hp.out]
      exact OC.out
    | true =>
      have Htk := qh htk
      clear htk
      have Hv := qh (tasksOk_vecs Htk.out (id, xs) (List.mem_singleton.2 rfl))
      have hn3 : n3 = 3 := by have := HX.out.len; have := vecOk_len Hv.out; dsimp only at this; omega
      subst hn3
      go_wp2_with fail
      have B7 := qh B6.out.drew
      have P7 := qh P6.out.drew
      have T7 := qh T6.out.drew
      have Z7 := qh Z6.out.drew
      have Q7 := qh Q6.out.drew
      have OC7 := qh (show OwnCR w6.drew w.heap.size (.slice A6 n1 c6) (.slice A4 n2 c4) n1 n2 room us from OC6.out.keepTU (fun _ _ => rfl))
      clear y0 y1 y2 y3 t0 t1 t2 t3 q0 q1 q2 q3 B6 P6 T6 Z6 Q6 OC6
      have hS := qh (fun w' (hb : Below w6.drew.heap.size w6.drew w') => (⟨(P7.out.below hb P7.out.lt).cell 0, (P7.out.below hb P7.out.lt).cell 1, (T7.out.below hb T7.out.lt).cell 0⟩ : w'.cell? ⟨w.heap.size, 0, none⟩ = some (.slice A1 n1 c1) ∧ w'.cell? ⟨w.heap.size, 1, none⟩ = some (.slice A2 n2 c2) ∧ w'.cell? ⟨w.heap.size + 1, 0, none⟩ = some (.int .i64 id)))
      have K0 := hS.out w6.drew (Below.refl _ _)
      refine wp_region_mix (.take 2 (.take 3 (.take 0 (.bar 1 (.bar 4 (.take 5 .nil)))))) (fun w' => w'.cell? ⟨w.heap.size, 0, none⟩ = some (.slice A1 n1 c1) ∧ w'.cell? ⟨w.heap.size, 1, none⟩ = some (.slice A2 n2 c2) ∧ w'.cell? ⟨w.heap.size + 1, 0, none⟩ = some (.int .i64 id)) (by kernel_rfl) (by kernel_rfl) K0 (fun _ => ?_)
      repeat ((first | refine mxS (by rfl) (by rfl) ?_ | (refine mxT (v := ?_) (by rfl) (by rfl) (fun z y => ?_) ?_; rotate_left; (focus ((try dsimp only at y); (go_simp <;> with_reducible rfl); done)))); (try simp only [Act.put,pS,pZ,pC]))
      clear K0
      generalize w6.drew = w7 at B7 P7 T7 Z7 Q7 OC7 hS ⊢
      (refine mxB (by rfl) (fun K hK => ?_); go_simp)
      refine (l21Bins_any A1 A2 n1 c1 n2 c2 us w7 (H.out.up B7.out).b (by omega)).mono ?_; rintro e w8 ⟨A8, m8, c8, rfl, hr8, hb8⟩
      have hcall := qh (l2Where_any A8 m8 c8 (us.map (·.2)) id w8 hr8)
      have B8 := qh (below_to B7.out hb8)
      have P8 := qh (P7.out.below hb8 P7.out.lt)
      have T8 := qh (T7.out.below hb8 T7.out.lt)
      have Z8 := qh (Z7.out.below hb8 Z7.out.lt)
      have Q8 := qh (Q7.out.below hb8 Q7.out.lt)
      have OC8 := qh (OC7.out.keepTU (KeepTU.up hb8))
      ((try dsimp only); refine nxK hK _ _ (hS.out _ hb8) ?_; clear hK K; (try simp only [Act.put,pS,pZ,pC]))
      clear hb8 hr8 B7 P7 T7 Z7 Q7 OC7 hS
      rcases whereP_or' (us.map (·.2)) id with hw | ⟨k, hw⟩
      · have Hp := qh (cavP_new (g := g) Hok.out Htk.out hw)
        rw [hw] at hcall
        clear hw
        (refine mxB (by rfl) (fun K hK => ?_); go_simp)
        refine hcall.out.mono ?_; rintro e w9 ⟨rfl, m9, rfl⟩
        have Ba := qh (below_drewN B8.out m9)
        have Pa := qh (P8.out.drewN m9)
        have Ta := qh (T8.out.drewN m9)
        have Za := qh (Z8.out.drewN m9)
        have Qa := qh (Q8.out.drewN m9)
        have OCa := qh (show OwnCR (w8.drewN m9) w.heap.size (.slice A6 n1 c6) (.slice A4 n2 c4) n1 n2 room us from OC8.out.keepTU (fun _ _ => rfl))
        ((try dsimp only); refine nxK hK _ _ (⟨Pa.out.cell 0, Pa.out.cell 1, Ta.out.cell 0⟩) ?_; clear hK K; (try simp only [Act.put,pS,pZ,pC]))
        clear hcall B8 P8 T8 Z8 Q8 OC8
        repeat ((first | refine mxS (by rfl) (by rfl) ?_ | (refine mxT (v := ?_) (by rfl) (by rfl) (fun z y => ?_) ?_; rotate_left; (focus ((try dsimp only at y); (go_simp <;> with_reducible rfl); done)))); (try simp only [Act.put,pS,pZ,pC]))
        refine wpMix_nil ?_
        generalize w8.drewN m9 = wa at Ba Pa Ta Za Qa OCa ⊢
        have y0 := (Pa.out).cell 0
        have y1 := (Pa.out).cell 1
        simp only [gT, gZ, gS] at y0 y1
        have y2 := (Pa.out).frozen 0
        have y3 := (Pa.out).frozen 1
        have t0 := (Ta.out).cell 0
        have t1 := (Ta.out).cell 1
        simp only [gT, gZ, gS] at t0 t1
        have t2 := (Ta.out).frozen 0
        have t3 := (Ta.out).frozen 1
        have q0 := (Qa.out).cell 0
        have q1 := (Qa.out).cell 1
        simp only [gT, gZ, gS] at q0 q1
        have q2 := (Qa.out).frozen 0
        have q3 := (Qa.out).frozen 1
        go_wp2_with fail
        refine (l21Arrive_any w.heap.size A6 A4 A3 n1 c6 n2 c4 c3 room us id xs g wa Ba.out.size OCa.out (HX.out.below Ba.out) Hok.out Hv.out).mono ?_; rintro e wb ⟨rfl, hocb, hbb, hkc⟩
        have Bb := qh (Ba.out.trans hbb)
        have OCb := qh hocb
        have Zb := qh (hkc.blk Za.out)
        have x0 := (Zb.out).cell 0
        have x1 := (Zb.out).cell 1
        simp only [gT, gZ, gS] at x0 x1
        have x2 := (Zb.out).frozen 0
        have x3 := (Zb.out).frozen 1
        clear hkc hocb hbb y0 y1 y2 y3 t0 t1 t2 t3 q0 q1 q2 q3 Ba Pa Ta Za Qa OCa
        have Hp2 := qh (show (cavP room us id xs g).2.2 = (arvP room us id xs g).2 by rw [Hp.out])
        go_wp2_with fail
        have KT := (KeepTU.set_ (Zb.out) (by decide) (by decide) (by decide) 0 (.slice A6 n1 c6)).trans (KeepTU.set_ ((Zb.out).set_ 0 (.slice A6 n1 c6)) (by decide) (by decide) (by decide) 1 (.slice A4 n2 c4))
        have EQ := qh (((Zb.out).set_ 0 (.slice A6 n1 c6)).set_ 1 (.slice A4 n2 c4))
        have B9 := qh (((Bb.out).setCell (p := ⟨w.heap.size + 2, 0, none⟩) (by show w.heap.size ≤ w.heap.size + 2; omega) (.slice A6 n1 c6)).setCell (p := ⟨w.heap.size + 2, 1, none⟩) (by show w.heap.size ≤ w.heap.size + 2; omega) (.slice A4 n2 c4))
        have OC := qh ((OCb.out).keepTU KT)
        clear KT
        generalize World.setCell (World.setCell wb ⟨w.heap.size + 2, 0, none⟩ (.slice A6 n1 c6)) ⟨w.heap.size + 2, 1, none⟩ (.slice A4 n2 c4) = w9 at EQ B9 OC ⊢
        have z0 : w9.cell? ⟨w.heap.size + 2, 0, none⟩ = some (.slice A6 n1 c6) := EQ.out.cell 0
        have z1 : w9.cell? ⟨w.heap.size + 2, 1, none⟩ = some (.slice A4 n2 c4) := EQ.out.cell 1
        refine bodyPost_ret (v := .tuple #[.agg #[(.slice A6 n1 c6), (.slice A4 n2 c4)], .int .i64 (arvP room us id xs g).2]) (by simp [results, Tryz.results40, go_sem, z0, z1]) rfl ⟨A6, n1, c6, A4, n2, c4, by rw [Hp.out], ?_, B9.out⟩
        rw [Hp.out]
        exact OC.out
      · have Hp := qh (cavP_twice (g := g) Hok.out Htk.out hw)
        rw [hw] at hcall
        clear hw
        (refine mxB (by rfl) (fun K hK => ?_); go_simp)
        refine hcall.out.mono ?_; rintro e w9 ⟨rfl, m9, rfl⟩
        have Ba := qh (below_drewN B8.out m9)
        have Pa := qh (P8.out.drewN m9)
        have Ta := qh (T8.out.drewN m9)
        have Za := qh (Z8.out.drewN m9)
        have Qa := qh (Q8.out.drewN m9)
        have OCa := qh (show OwnCR (w8.drewN m9) w.heap.size (.slice A6 n1 c6) (.slice A4 n2 c4) n1 n2 room us from OC8.out.keepTU (fun _ _ => rfl))
        ((try dsimp only); refine nxK hK _ _ (⟨Pa.out.cell 0, Pa.out.cell 1, Ta.out.cell 0⟩) ?_; clear hK K; (try simp only [Act.put,pS,pZ,pC]))
        clear hcall B8 P8 T8 Z8 Q8 OC8
        repeat ((first | refine mxS (by rfl) (by rfl) ?_ | (refine mxT (v := ?_) (by rfl) (by rfl) (fun z y => ?_) ?_; rotate_left; (focus ((try dsimp only at y); (go_simp <;> with_reducible rfl); done)))); (try simp only [Act.put,pS,pZ,pC]))
        refine wpMix_nil ?_
        generalize w8.drewN m9 = wa at Ba Pa Ta Za Qa OCa ⊢
        have q0 := (Qa.out).cell 0
        have q1 := (Qa.out).cell 1
        simp only [gT, gZ, gS] at q0 q1
        have q2 := (Qa.out).frozen 0
        have q3 := (Qa.out).frozen 1
        have x0 := (Za.out).cell 0
        have x1 := (Za.out).cell 1
        simp only [gT, gZ, gS] at x0 x1
        have x2 := (Za.out).frozen 0
        have x3 := (Za.out).frozen 1
        go_wp2_with fail
        have KT := (KeepTU.set_ (Za.out) (by decide) (by decide) (by decide) 0 (.slice A6 n1 c6)).trans (KeepTU.set_ ((Za.out).set_ 0 (.slice A6 n1 c6)) (by decide) (by decide) (by decide) 1 (.slice A4 n2 c4))
        have EQ := qh (((Za.out).set_ 0 (.slice A6 n1 c6)).set_ 1 (.slice A4 n2 c4))
        have B9 := qh (((Ba.out).setCell (p := ⟨w.heap.size + 2, 0, none⟩) (by show w.heap.size ≤ w.heap.size + 2; omega) (.slice A6 n1 c6)).setCell (p := ⟨w.heap.size + 2, 1, none⟩) (by show w.heap.size ≤ w.heap.size + 2; omega) (.slice A4 n2 c4))
        have OC := qh ((OCa.out).keepTU KT)
        clear KT
        generalize World.setCell (World.setCell wa ⟨w.heap.size + 2, 0, none⟩ (.slice A6 n1 c6)) ⟨w.heap.size + 2, 1, none⟩ (.slice A4 n2 c4) = w9 at EQ B9 OC ⊢
        have z0 : w9.cell? ⟨w.heap.size + 2, 0, none⟩ = some (.slice A6 n1 c6) := EQ.out.cell 0
        have z1 : w9.cell? ⟨w.heap.size + 2, 1, none⟩ = some (.slice A4 n2 c4) := EQ.out.cell 1
        refine bodyPost_ret (v := .tuple #[.agg #[(.slice A6 n1 c6), (.slice A4 n2 c4)], .int .i64 2]) (by simp [results, Tryz.results40, go_sem, z0, z1]) rfl ⟨A6, n1, c6, A4, n2, c4, by rw [Hp.out], ?_, B9.out⟩
        rw [Hp.out]
        exact OC.out
end Go.Proofs.YtlcgbnmmbheleaaGreat

namespace Go.Proofs.YtlcgbnmmbheleaaGreat
open Go Go.RowKit
attribute [local go_sem ↓] Go.wp_at_zero Go.wp_at_succ

def newP (room : List Int) (q : Int) : List Int × List Un := if roomOk room = true ∧ inR 1 10 q = true then (room, List.replicate q.toNat (false, [])) else ([], [])
def newB (room : List Int) (q : Int) : Bool := roomOk room && inR 1 10 q
theorem newB_no {room : List Int} {q : Int} (h : ¬ (roomOk room = true ∧ inR 1 10 q = true)) : newB room q = false := by rw [← Bool.not_eq_true]; intro hh; exact h (by simpa [newB] using hh)
theorem newB_yes {room : List Int} {q : Int} (h : roomOk room = true ∧ inR 1 10 q = true) : newB room q = true := by simp [newB, h.1, h.2]
theorem newP_no {room : List Int} {q : Int} (h : ¬ (roomOk room = true ∧ inR 1 10 q = true)) : newP room q = ([], []) := by unfold newP; rw [if_neg h]
theorem newP_yes {room : List Int} {q : Nat} (h : roomOk room = true ∧ inR 1 10 (q : Int) = true) : newP room q = (room, List.replicate q (false, [])) := by unfold newP; rw [if_pos h, Int.toNat_natCast]

set_option maxRecDepth 100000 in
set_option maxHeartbeats 3200000 in
theorem clusterNew_any (A : Option Addr) (n c : Nat) (room : List Int) (q : Int) (w : World) (h : RdI w w.heap.size A n room) (hn : n ≤ 1048576) :
    Calls Tryz.prog 36 #[.slice A n c, .int .i64 q] w fun e w' => ∃ A1 m1 c1 A2 m2 c2, e = .returned (.tuple #[.agg #[.slice A1 m1 c1, .slice A2 m2 c2], .bool (newB room q)]) ∧ OwnC w' w.heap.size (.slice A1 m1 c1) (.slice A2 m2 c2) m1 m2 (newP room q).1 (newP room q).2 ∧ Below w.heap.size w w' := by
  obtain ⟨i0, hi0, hz0, hz1, hz2⟩ := info_parts ownI_info
  obtain ⟨ui0, hu0, huz0, huz1, huz2⟩ := info_parts unit_info
  have hl := qh h.len
  have H := qh h
  clear h
  have B1 := qh (alloc_up w (.cells #[.slice none 0 0, .slice none 0 0] 26))
  have P1 := qh (Blk.new w 26 #[.slice none 0 0, .slice none 0 0])
  have x0 := (P1.out).cell 0
  have x1 := (P1.out).cell 1
  simp only [gT, gZ, gS] at x0 x1
  have x2 := (P1.out).frozen 0
  have x3 := (P1.out).frozen 1
  go_enter Tryz.func36, Tryz.ntmps36
  go_wp2_with fail
  generalize w.alloc (.cells #[.slice none 0 0, .slice none 0 0] 26) = w1 at B1 P1 x0 x1 x2 x3 ⊢
  have lz1 := B1.out.size
  cases hr : roomOk room with
  | false =>
    have Hno := qh (show ¬ (roomOk room = true ∧ inR 1 10 q = true) by rw [hr]; simp)
    go_wp2_with (first | (go_at_call 67; refine (l2Room_any A n c w1.heap.size room w1 (H.out.up B1.out)).mono ?_; rintro e w2 ⟨rfl, rfl⟩; rw [hr]) | (go_at_call 24; refine (l6In_any _ _ _ _).mono ?_; rintro e w2 ⟨rfl, rfl⟩))
    have EQ := qh ((P1.out.set_ 0 (.slice none 0 0)).set_ 1 (.slice none 0 0))
    have B9 := qh ((B1.out.setCell (p := ⟨w.heap.size, 0, none⟩) (by simp) (.slice none 0 0)).setCell (p := ⟨w.heap.size, 1, none⟩) (by simp) (.slice none 0 0))
    generalize (World.setCell w1 ⟨w.heap.size, 0, none⟩ (.slice none 0 0)).setCell ⟨w.heap.size, 1, none⟩ (.slice none 0 0) = w9 at EQ B9 ⊢
    have z0 : w9.cell? ⟨w.heap.size, 0, none⟩ = some (.slice none 0 0) := EQ.out.cell 0
    have z1 : w9.cell? ⟨w.heap.size, 1, none⟩ = some (.slice none 0 0) := EQ.out.cell 1
    refine bodyPost_ret (v := .tuple #[.agg #[(.slice none 0 0), (.slice none 0 0)], .bool false]) (by simp [results, Tryz.results36, go_sem, z0, z1]) rfl ⟨none, 0, 0, none, 0, 0, by rw [newB_no Hno.out], ?_, B9.out⟩
    rw [newP_no Hno.out]
    exact OwnC.none B9.out.size
  | true =>
    cases hi : inR 1 10 q with
    | false =>
      have Hno := qh (show ¬ (roomOk room = true ∧ inR 1 10 q = true) by rw [hi]; simp)
      go_wp2_with (first | (go_at_call 67; refine (l2Room_any A n c w1.heap.size room w1 (H.out.up B1.out)).mono ?_; rintro e w2 ⟨rfl, rfl⟩; rw [hr]) | (go_at_call 24; refine (l6In_any _ _ _ _).mono ?_; rintro e w2 ⟨rfl, rfl⟩; rw [hi]))
      have EQ := qh ((P1.out.set_ 0 (.slice none 0 0)).set_ 1 (.slice none 0 0))
      have B9 := qh ((B1.out.setCell (p := ⟨w.heap.size, 0, none⟩) (by simp) (.slice none 0 0)).setCell (p := ⟨w.heap.size, 1, none⟩) (by simp) (.slice none 0 0))
      generalize (World.setCell w1 ⟨w.heap.size, 0, none⟩ (.slice none 0 0)).setCell ⟨w.heap.size, 1, none⟩ (.slice none 0 0) = w9 at EQ B9 ⊢
      have z0 : w9.cell? ⟨w.heap.size, 0, none⟩ = some (.slice none 0 0) := EQ.out.cell 0
      have z1 : w9.cell? ⟨w.heap.size, 1, none⟩ = some (.slice none 0 0) := EQ.out.cell 1
      refine bodyPost_ret (v := .tuple #[.agg #[(.slice none 0 0), (.slice none 0 0)], .bool false]) (by simp [results, Tryz.results36, go_sem, z0, z1]) rfl ⟨none, 0, 0, none, 0, 0, by rw [newB_no Hno.out], ?_, B9.out⟩
      rw [newP_no Hno.out]
      exact OwnC.none B9.out.size
    | true =>
      obtain ⟨i1, i2⟩ := inR_iff.1 hi
      obtain ⟨k, rfl⟩ := Int.eq_ofNat_of_zero_le (show 0 ≤ q by omega)
      have HyB := qh (newB_yes (room := room) (q := (k : Int)) ⟨hr, hi⟩)
      have Hyes := qh (newP_yes (room := room) (q := k) ⟨hr, hi⟩)
      have hO := World.ownsRow_lit (base := w.heap.size) (e := 3) (size := 1) w1 #[] 0 lz1 (by unfold maxLen; omega) rfl
      have O2 := qh (show (w1.alloc (.cells #[] 3)).ownsRow w.heap.size 3 1 (.slice (some ⟨w1.heap.size, 0, none⟩) 0 0) 0 [] from hO)
      have B2 := qh (B1.out.alloc lz1 (.cells #[] 3))
      have P2 := qh (P1.out.alloc (.cells #[] 3))
      have S2 := qh (srcOfI (H.out.up B2.out))
      have N2 := qh (ints_cell1 room)
      have lz2 := B2.out.size
      clear hO x0 x1 x2 x3
      go_wp2_with (first | (go_at_call 67; refine (l2Room_any A n c w1.heap.size room w1 (H.out.up B1.out)).mono ?_; rintro e w2 ⟨rfl, rfl⟩; rw [hr]) | (go_at_call 24; refine (l6In_any _ _ _ _).mono ?_; rintro e w2 ⟨rfl, rfl⟩; rw [hi]) | (at_builtin; refine wpList_append_src _ rfl _ _ 23 rfl w.heap.size 3 i0 _ 1 8 Tryz.underlying23 hi0 hz0 hz1 hz2 rfl (by omega) (.slice (some ⟨w1.heap.size, 0, none⟩) 0 0) 0 [] rfl O2.out A n c _ rfl S2.out N2.out (by unfold maxLen; omega) (by omega) lz2 ?_; intro v' w4 hown4 hgrow4 hat4; rw [Nat.zero_add, List.nil_append] at hown4; obtain ⟨A4, c4, rfl⟩ := own_shape hown4))
      have B4 := qh (B2.out.grown hgrow4 lz2 (fun j e => (O2.out.lt j e).1))
      have P4 := qh (P2.out.grown hgrow4 (fun e => own_blk_ne O2.out P2.out (by decide) e.symm))
      have O4 := qh hown4
      have lz4 := B4.out.size
      have lmd : w.heap.size < w4.heap.size := P4.out.lt
      clear hown4 hgrow4 hat4 O2 B2 P2 S2 N2 lz2 B1 P1
      have sz : (w4.alloc (.cells #[] 32)).heap.size = w4.heap.size + 1 := World.size_alloc _ _
      have U5 := qh (show ((w4.alloc (.cells #[] 32)).alloc (.cells #[.slice A4 n c4, .slice (some ⟨w4.heap.size, 0, none⟩) 0 0] 26)).ownsRow w4.heap.size 32 2 (.slice (some ⟨w4.heap.size, 0, none⟩) 0 0) 0 [] from
        own_alloc (World.ownsRow_lit (base := w4.heap.size) (e := 32) (size := 2) w4 #[] 0 (Nat.le_refl _) (by unfold maxLen; omega) rfl) _)
      have hC := Blk.new (w4.alloc (.cells #[] 32)) 26 #[.slice A4 n c4, .slice (some ⟨w4.heap.size, 0, none⟩) 0 0]
      rw [sz] at hC
      have C5 := qh hC
      have P5 := qh ((P4.out.alloc (.cells #[] 32)).alloc (.cells #[.slice A4 n c4, .slice (some ⟨w4.heap.size, 0, none⟩) 0 0] 26))
      have B5 := qh ((B4.out.alloc lz4 (.cells #[] 32)).alloc (by rw [sz]; omega) (.cells #[.slice A4 n c4, .slice (some ⟨w4.heap.size, 0, none⟩) 0 0] 26))
      have O5 := qh (own_alloc (own_alloc O4.out (.cells #[] 32)) (.cells #[.slice A4 n c4, .slice (some ⟨w4.heap.size, 0, none⟩) 0 0] 26))
      have Lo := qh (fun b hb => (O4.out.lt b hb).2)
      have lz5 : w4.heap.size ≤ ((w4.alloc (.cells #[] 32)).alloc (.cells #[.slice A4 n c4, .slice (some ⟨w4.heap.size, 0, none⟩) 0 0] 26)).heap.size := by rw [World.size_alloc, sz]; omega
      clear hC sz O4 P4 B4
      generalize (w4.alloc (.cells #[] 32)).alloc (.cells #[.slice A4 n c4, .slice (some ⟨w4.heap.size, 0, none⟩) 0 0] 26) = w5 at U5 C5 P5 B5 O5 lz5 ⊢
      generalize w4.heap.size = md at *
      obtain ⟨g3, hg3⟩ : ∃ g3, g3 = md + 1 := ⟨_, rfl⟩
      rw [← hg3] at C5
      rw [← hg3]
      have lg3 : w.heap.size < g3 := by omega
      clear hg3
      go_loopw [7] (fun i wr => ∃ (j : Nat) (A6 : Option Addr) (c6 : Nat) (vs : List Value) (tk : Nat → Value) (f : Nat → Nat), i = .int .i64 j ∧ j ≤ k ∧ Below w.heap.size w wr ∧ Blk wr w.heap.size 26 #[.slice none 0 0, .slice none 0 0] ∧
        Blk wr g3 26 #[.slice A4 n c4, .slice A6 j c6] ∧ wr.ownsRow w.heap.size 3 1 (.slice A4 n c4) n (room.map (Value.int .i64)) ∧ wr.ownsRow md 32 2 (.slice A6 j c6) j vs ∧ NdUs wr j vs tk f (List.replicate j (false, [])) ∧ md ≤ f 0 ∧ f j ≤ wr.heap.size) (fun i _ => k - (intOf i).toNat)
      case atStart => exact ⟨0, _, 0, [], _, _, rfl, Nat.zero_le _, B5.out, P5.out, C5.out, O5.out, U5.out, NdUs.nil md, Nat.le_refl _, lz5⟩
      case round =>
        clear B5 P5 C5 O5 U5 lz5
        obtain ⟨j, A6, c6, vs, tk, f, rfl, hj, hbel, hblk, hcl, hrm, hun, hnd, hmd, hfk⟩ := hrel
        have Hb := qh hbel
        have Hp := qh hblk
        have Hc := qh hcl
        have Hm := qh hrm
        have Hu := qh hun
        have Hn := qh hnd
        have Hmd := qh hmd
        have lz := hbel.size
        have lmz : md ≤ wr.heap.size := by have := hnd.mono 0 j (by omega) (by omega); omega
        clear hbel hblk hcl hrm hun hnd hmd
        by_cases hlt : (j : Int) < (k : Int)
        · have sz : (wr.alloc (.cells #[] 40)).heap.size = wr.heap.size + 1 := World.size_alloc _ _
          have OT := own_alloc (World.ownsRow_lit (base := wr.heap.size) (e := 40) (size := 2) wr #[] 0 (Nat.le_refl _) (by unfold maxLen; omega) rfl) (.cells #[.bool false, .slice (some ⟨wr.heap.size, 0, none⟩) 0 0] 32)
          have Own7 := qh (own_alloc (own_alloc Hu.out (.cells #[] 40)) (.cells #[.bool false, .slice (some ⟨wr.heap.size, 0, none⟩) 0 0] 32))
          have hX := lit2 (wr.alloc (.cells #[] 40)) 32 (.bool false) (.slice (some ⟨wr.heap.size, 0, none⟩) 0 0)
          rw [sz] at hX
          have X7 := qh hX
          have Q7 := qh ((Hc.out.alloc (.cells #[] 40)).alloc (.cells #[.bool false, .slice (some ⟨wr.heap.size, 0, none⟩) 0 0] 32))
          have P7 := qh ((Hp.out.alloc (.cells #[] 40)).alloc (.cells #[.bool false, .slice (some ⟨wr.heap.size, 0, none⟩) 0 0] 32))
          have B7 := qh ((Hb.out.alloc lz (.cells #[] 40)).alloc (by rw [sz]; omega) (.cells #[.bool false, .slice (some ⟨wr.heap.size, 0, none⟩) 0 0] 32))
          have y1 := Hc.out.cell 1
          simp only [gT, gZ, gS] at y1
          have lz7 : md ≤ ((wr.alloc (.cells #[] 40)).alloc (.cells #[.bool false, .slice (some ⟨wr.heap.size, 0, none⟩) 0 0] 32)).heap.size := by rw [World.size_alloc, sz]; omega
          have lz8 : wr.heap.size + 1 ≤ ((wr.alloc (.cells #[] 40)).alloc (.cells #[.bool false, .slice (some ⟨wr.heap.size, 0, none⟩) 0 0] 32)).heap.size := by rw [World.size_alloc, sz]; omega
          have OT7 := qh OT
          have KTa := qh ((KeepTI.up (alloc_up wr (.cells #[] 40))).trans (KeepTI.up (alloc_up (wr.alloc (.cells #[] 40)) (.cells #[.bool false, .slice (some ⟨wr.heap.size, 0, none⟩) 0 0] 32))))
          clear hX OT
          have ln : k ≤ 10 := by omega
          go_wp2_with (at_builtin; refine wpList_append_src _ rfl _ _ 24 rfl md 32 ui0 _ 2 32 Tryz.underlying24 hu0 huz0 huz1 huz2 rfl (by omega) (.slice A6 j c6) j vs rfl Own7.out (some ⟨wr.heap.size + 1, 0, none⟩) 1 1 [.bool false, .slice (some ⟨wr.heap.size, 0, none⟩) 0 0] rfl X7.out (one2 _ _ rfl rfl) (by unfold maxLen; omega) (by omega) lz7 ?_; intro v' w8 hown8 hgrow8 hat8; obtain ⟨A8, c8, rfl⟩ := own_shape hown8; have HG8 := qh hgrow8; have Cl8 := qh (Q7.out.grown hgrow8 (fun e => own_blk_ne Own7.out Q7.out (by decide) e.symm)); have y8 := Cl8.out.cell 1; simp only [gT, gZ, gS] at y8; have f8 := Cl8.out.frozen 1; have Own8 := qh hown8; clear hown8 hat8 hgrow8)
          have KTb := qh ((KeepTI.grown Own7.out HG8.out (by decide) (by decide)).trans (KeepTI.set_ Cl8.out (by decide) (by decide) 1 (.slice A8 (j + 1) c8)))
          have KT := qh (KTa.out.trans KTb.out)
          have P9 := qh ((P7.out.grown HG8.out (fun e => own_blk_ne Own7.out P7.out (by decide) e.symm)).far (p := ⟨g3, 1, none⟩) (by show w.heap.size ≠ g3; omega) (.slice A8 (j + 1) c8))
          have Q9 := qh (show Blk (w8.setCell ⟨g3, 1, none⟩ (.slice A8 (j + 1) c8)) g3 26 #[.slice A4 n c4, .slice A8 (j + 1) c8] from Cl8.out.set_ 1 (.slice A8 (j + 1) c8))
          have Un9 := qh (own_keep Own8.out (w' := w8.setCell ⟨g3, 1, none⟩ (.slice A8 (j + 1) c8)) (fun b hb => Below.heap_setCell _ _ _ _ (fun e => own_blk_ne Own8.out Cl8.out (by decide) (by rw [hb, e]))))
          have B9 := qh ((B7.out.grown HG8.out (by omega) (fun r e => by have := (Own7.out.lt r e).1; omega)).setCell (p := ⟨g3, 1, none⟩) (by show w.heap.size ≤ g3; omega) (.slice A8 (j + 1) c8))
          have sz9 : wr.heap.size + 1 ≤ (w8.setCell ⟨g3, 1, none⟩ (.slice A8 (j + 1) c8)).heap.size := by have := HG8.out.size; simp only [World.setCell, Array.size_modify]; omega
          have OT9 := own_keepTI OT7.out (.inr rfl) KTb.out
          have hx : OwnTsB (w8.setCell ⟨g3, 1, none⟩ (.slice A8 (j + 1) c8)) (f j) (wr.heap.size + 1) (.slice (some ⟨wr.heap.size, 0, none⟩) 0 0) 0 [] :=
            ⟨[], _, own_lo OT9 hfk, NdTs.nil, fun b hb => by simp [Value.ownBlock] at hb; omega, fun i hi => by omega⟩
          have hns := (Hn.out.keepTI KT.out).snoc (op := false) (by have := Hu.out.1; omega) hx (by omega)
          have Nd9 := qh hns
          have Rm9 := qh (own_keepTI Hm.out (.inl rfl) KT.out)
          clear hx hns y1 y8 f8 OT9
          go_wp2_with fail
          go_roundw
          case measure => simp [intOf]; omega
          case rel => exact ⟨j + 1, A8, c8, _, _, _, by go_num, by omega, B9.out, P9.out, Q9.out, Rm9.out, Un9.out, by rw [List.replicate_succ']; exact Nd9.out, by show md ≤ (if 0 = j + 1 then _ else f 0); rw [if_neg (by omega)]; exact Hmd.out, by show (if j + 1 = j + 1 then wr.heap.size + 1 else _) ≤ _; rw [if_pos rfl]; exact sz9⟩
        · obtain rfl : k = j := by omega
          have q0 := Hc.out.cell 0
          have q1 := Hc.out.cell 1
          simp only [gT, gZ, gS] at q0 q1
          have x0 := (Hp.out).cell 0
          have x1 := (Hp.out).cell 1
          simp only [gT, gZ, gS] at x0 x1
          have x2 := (Hp.out).frozen 0
          have x3 := (Hp.out).frozen 1
          go_wp2_with fail
          have KT := qh ((KeepTI.set_ Hp.out (by decide) (by decide) 0 (.slice A4 n c4)).trans (KeepTI.set_ (Hp.out.set_ 0 (.slice A4 n c4)) (by decide) (by decide) 1 (.slice A6 k c6)))
          have EQ := qh ((Hp.out.set_ 0 (.slice A4 n c4)).set_ 1 (.slice A6 k c6))
          have U9 := qh (own_keep Hu.out (w' := (wr.setCell ⟨w.heap.size, 0, none⟩ (.slice A4 n c4)).setCell ⟨w.heap.size, 1, none⟩ (.slice A6 k c6)) (fun b hb => have hbb : b ≠ w.heap.size := fun e => own_blk_ne Hu.out Hp.out (by decide) (by rw [hb, e])
            (Below.heap_setCell _ _ _ b hbb).trans (Below.heap_setCell _ _ _ b hbb)))
          have B9 := qh ((Hb.out.setCell (p := ⟨w.heap.size, 0, none⟩) (by simp) (.slice A4 n c4)).setCell (p := ⟨w.heap.size, 1, none⟩) (by simp) (.slice A6 k c6))
          generalize (wr.setCell ⟨w.heap.size, 0, none⟩ (.slice A4 n c4)).setCell ⟨w.heap.size, 1, none⟩ (.slice A6 k c6) = w9 at KT EQ U9 B9 ⊢
          have z0 : w9.cell? ⟨w.heap.size, 0, none⟩ = some (.slice A4 n c4) := EQ.out.cell 0
          have z1 : w9.cell? ⟨w.heap.size, 1, none⟩ = some (.slice A6 k c6) := EQ.out.cell 1
          refine bodyPost_ret (v := .tuple #[.agg #[.slice A4 n c4, .slice A6 k c6], .bool true]) (by simp [results, Tryz.results36, go_sem, z0, z1]) rfl ⟨A4, n, c4, A6, k, c6, by rw [HyB.out], ?_, B9.out⟩
          rw [Hyes.out]
          exact ⟨own_keepTI Hm.out (.inl rfl) KT.out, md, Lo.out, lz4, vs, tk, f, U9.out, Hn.out.keepTI KT.out, Hmd.out⟩
end Go.Proofs.YtlcgbnmmbheleaaGreat

namespace Go.Proofs.YtlcgbnmmbheleaaGreat
open Go Go.RowKit

def Sh (B : Nat) (room : List Int) (us : List Un) : Prop := (room.length = 3 ∨ (room = [] ∧ us = [])) ∧ us.length ≤ 10 ∧ ∀ u ∈ us, u.2.length ≤ B ∧ ∀ t ∈ u.2, t.2.length ≤ 3
section
variable {room : List Int} {us : List Un} {B : Nat}
theorem Sh.empty : Sh B [] [] := ⟨.inr ⟨rfl, rfl⟩, by simp, fun u hu => by simp at hu⟩
theorem Sh.of_ok (h : clOk room us = true) : Sh 14 room us := by
  obtain ⟨f1, _, f3, f4⟩ := clOk_facts h
  exact ⟨.inl f1, f3, fun u hu => ⟨(f4 u hu).1, fun t ht => by rw [(f4 u hu).2 t ht]; omega⟩⟩
theorem Sh.more {B' : Nat} (h : Sh B room us) (hb : B ≤ B') : Sh B' room us := ⟨h.1, h.2.1, fun u hu => ⟨Nat.le_trans (h.2.2 u hu).1 hb, (h.2.2 u hu).2⟩⟩
theorem Sh.room_le (h : Sh B room us) : room.length ≤ 3 := by rcases h.1 with h | ⟨h, _⟩ <;> simp [h]
theorem Sh.shU (h : Sh B room us) (hb : B ≤ 1000) : ShU us := ⟨by have := h.2.1; omega, fun u hu => ⟨Nat.le_trans (h.2.2 u hu).1 hb, fun t ht => by have := (h.2.2 u hu).2 t ht; omega⟩⟩
theorem Sh.set_ {op : Bool} {T : List Tk} (h : Sh B room us) (k : Nat) (hT : T.length ≤ B ∧ ∀ t ∈ T, t.2.length ≤ 3) : Sh B room (us.set k (op, T)) := by
  refine ⟨?_, by rw [List.length_set]; exact h.2.1, fun u hu => ?_⟩
  · rcases h.1 with h | ⟨h, h'⟩
    · exact .inl h
    · exact .inr ⟨h, by rw [h']; rfl⟩
  · rcases List.mem_or_eq_of_mem_set hu with hu | rfl
    · exact h.2.2 u hu
    · exact hT
theorem Sh.at_ (h : Sh B room us) (k : Nat) : (us[k]?.getD (false, [])).2.length ≤ B ∧ ∀ t ∈ (us[k]?.getD (false, [])).2, t.2.length ≤ 3 := by
  by_cases hk : k < us.length
  · exact h.2.2 _ (un_mem hk)
  · rw [List.getElem?_eq_none (by omega)]
    exact ⟨by simp, fun t ht => by simp at ht⟩
theorem depP_sh (room : List Int) (us : List Un) (id : Int) : Sh 15 (depP room us id).1 (depP room us id).2.1 := by
  cases hok : clOk room us with
  | false => rw [depP_bad hok]; exact Sh.empty
  | true =>
    have h0 := (Sh.of_ok hok).more (show 14 ≤ 15 by omega)
    rcases whereP_or (us.map (·.2)) id with hw | ⟨k, hw, hk⟩
    · rw [depP_none hok hw]; exact h0
    · rw [depP_yes hok hw]
      exact h0.set_ k ⟨Nat.le_trans (takeP_len _ _) (h0.at_ k).1, fun t ht => (h0.at_ k).2 t (takeP_mem ht)⟩
theorem opnP_sh (room : List Int) (us : List Un) (node : Int) (op : Bool) : Sh 15 (opnP room us node op).1 (opnP room us node op).2.1 := by
  unfold opnP
  split
  · rename_i hok
    have h0 := (Sh.of_ok hok).more (show 14 ≤ 15 by omega)
    split
    · split
      · exact h0
      · split
        · exact h0
        · exact h0.set_ _ (h0.at_ _)
    · exact h0
  · exact Sh.empty
theorem cavP_sh (room : List Int) (us : List Un) (id : Int) (xs : List Int) (g : Bool) : Sh 15 (cavP room us id xs g).1 (cavP room us id xs g).2.1 := by
  unfold cavP
  split
  · rename_i hok
    have h0 := Sh.of_ok hok
    have h1 := h0.more (show 14 ≤ 15 by omega)
    split
    · rename_i hv
      have hx := vecOk_len (tasksOk_vecs hv (id, xs) (List.mem_singleton.2 rfl))
      split
      · exact h1
      · unfold arvP
        split
        · exact h1
        · refine h1.set_ _ ⟨?_, fun t ht => ?_⟩
          · rw [List.length_append, List.length_singleton]; have := (h0.at_ (arvAt room us xs g).toNat).1; omega
          · rcases List.mem_append.1 ht with ht | ht
            · exact (h0.at_ _).2 t ht
            · rw [List.mem_singleton.1 ht]; exact Nat.le_of_eq hx
    · exact h1
  · exact Sh.empty
theorem newP_sh (room : List Int) (q : Int) : Sh 15 (newP room q).1 (newP room q).2 := by
  unfold newP
  split
  · rename_i h
    refine ⟨.inl (vecOk_len (roomOk_vec h.1)), ?_, fun u hu => ?_⟩
    · rw [List.length_replicate]; have := (inR_iff.1 h.2).2; have := (inR_iff.1 h.2).1; omega
    · rw [List.eq_of_mem_replicate hu]; exact ⟨by simp, fun t ht => by simp at ht⟩
  · exact Sh.empty
end

structure ClW (w0 w : World) (g Z C q : Nat) (A1 : Option Addr) (m1 c1 : Nat) (A2 : Option Addr) (m2 c2 : Nat) (room : List Int) (us : List Un) : Prop where
  c : Blk w C 26 #[.slice A1 m1 c1, .slice A2 m2 c2]
  z : Blk w Z 26 #[.slice none 0 0, .slice none 0 0]
  oc : OwnCR w w0.heap.size (.slice A1 m1 c1) (.slice A2 m2 c2) m1 m2 room us
  o : OnlyG w0 w g
  r : Rdr w g q
  lc : w0.heap.size ≤ C
  lz : w0.heap.size ≤ Z
  ne : C ≠ Z
  lg : g < w0.heap.size
section
variable {w0 w w' : World} {g Z C q q' m1 c1 m2 c2 : Nat} {A1 A2 : Option Addr} {room : List Int} {us : List Un}
theorem keepTU_rdr (r : Rdr w g q) (o : OnlyG w w' g) : KeepTU w w' := by
  obtain ⟨A, n, c, hb, _⟩ := r
  exact keepTU_only o hb (by decide) (by decide) (by decide)
theorem ClW.only (h : ClW w0 w g Z C q A1 m1 c1 A2 m2 c2 room us) (o : OnlyG w w' g) (r : Rdr w' g q') : ClW w0 w' g Z C q' A1 m1 c1 A2 m2 c2 room us :=
  ⟨o.blk h.c (by have := h.lg; have := h.lc; omega), o.blk h.z (by have := h.lg; have := h.lz; omega), h.oc.keepTU (keepTU_rdr h.r o), h.o.trans o, r, h.lc, h.lz, h.ne, h.lg⟩
theorem ClW.below (h : ClW w0 w g Z C q A1 m1 c1 A2 m2 c2 room us) (b : Below w.heap.size w w') : ClW w0 w' g Z C q A1 m1 c1 A2 m2 c2 room us :=
  ⟨h.c.below b h.c.lt, h.z.below b h.z.lt, h.oc.keepTU (KeepTU.up b), h.o.below b, h.r.below b, h.lc, h.lz, h.ne, h.lg⟩
theorem ClW.drew (h : ClW w0 w g Z C q A1 m1 c1 A2 m2 c2 room us) : ClW w0 w.drew g Z C q A1 m1 c1 A2 m2 c2 room us :=
  ⟨h.c.drew, h.z.drew, h.oc.keepTU (fun _ _ => rfl), h.o.drew, h.r.keep (fun _ _ => rfl), h.lc, h.lz, h.ne, h.lg⟩
theorem ClW.put {m3 c3 m4 c4 : Nat} {A3 A4 : Option Addr} {room' : List Int} {us' : List Un} (h : ClW w0 w g Z C q A1 m1 c1 A2 m2 c2 room us) (oc : OwnCR w w0.heap.size (.slice A3 m3 c3) (.slice A4 m4 c4) m3 m4 room' us') :
    ClW w0 ((w.setCell ⟨C, 0, none⟩ (.slice A3 m3 c3)).setCell ⟨C, 1, none⟩ (.slice A4 m4 c4)) g Z C q A3 m3 c3 A4 m4 c4 room' us' := by
  have l1 := h.lc
  have l2 := h.lg
  have l3 := h.ne
  refine ⟨(h.c.set_ 0 (.slice A3 m3 c3)).set_ 1 (.slice A4 m4 c4), (h.z.far (p := ⟨C, 0, none⟩) (fun e => l3 e.symm) _).far (p := ⟨C, 1, none⟩) (fun e => l3 e.symm) _,
    oc.keepTU ((KeepTU.set_ h.c (by decide) (by decide) (by decide) 0 (.slice A3 m3 c3)).trans (KeepTU.set_ (h.c.set_ 0 (.slice A3 m3 c3)) (by decide) (by decide) (by decide) 1 (.slice A4 m4 c4))),
    (h.o.set_new (p := ⟨C, 0, none⟩) l1 _).set_new (p := ⟨C, 1, none⟩) l1 _, ?_, h.lc, h.lz, h.ne, h.lg⟩
  exact (h.r.keep (fun b hb => Below.heap_setCell _ _ _ _ (by show b ≠ C; omega))).keep (fun b hb => Below.heap_setCell _ _ _ _ (by show b ≠ C; omega))
theorem ClW.cells (h : ClW w0 w g Z C q A1 m1 c1 A2 m2 c2 room us) : w.cell? ⟨C, 0, none⟩ = some (.slice A1 m1 c1) ∧ w.cell? ⟨C, 1, none⟩ = some (.slice A2 m2 c2) ∧ w.frozen? ⟨C, 0, none⟩ = false ∧ w.frozen? ⟨C, 1, none⟩ = false :=
  ⟨h.c.cell 0, h.c.cell 1, h.c.frozen 0, h.c.frozen 1⟩
theorem ClW.len (h : ClW w0 w g Z C q A1 m1 c1 A2 m2 c2 room us) : room.length = m1 ∧ us.length = m2 ∧ m1 ≤ c1 ∧ m2 ≤ c2 := h.oc.len
theorem ClW.row {k : Nat} (h : ClW w0 w g Z C q A1 m1 c1 A2 m2 c2 room us) (hk : k < m2) : ∃ gu vs tk, A2 = some ⟨gu, 0, none⟩ ∧ w.ownsRow w0.heap.size 3 1 (.slice A1 m1 c1) m1 (room.map (Value.int .i64)) ∧
    w.ownsRow w0.heap.size 32 2 (.slice (some ⟨gu, 0, none⟩) m2 c2) m2 vs ∧ NdUR w w0.heap.size m2 vs tk us ∧ w0.heap.size ≤ gu ∧ gu < w.heap.size ∧ gu ≠ C ∧ gu ≠ Z ∧
    w.cell? ⟨gu, k * 2, none⟩ = some (.bool (us[k]?.getD (false, [])).1) ∧ w.cell? ⟨gu, k * 2 + 1, none⟩ = some (tk k) ∧ w.frozen? ⟨gu, k * 2, none⟩ = false ∧ w.frozen? ⟨gu, k * 2 + 1, none⟩ = false ∧ ∃ cs, Blk w gu 32 cs := by
  obtain ⟨hr, vs, tk, hU, hN⟩ := h.oc
  obtain ⟨gu, cap, hv, hgu1, hgu2⟩ := hU.form (by omega)
  injection hv with hv1 hv2 hv3
  subst hv1 hv3
  obtain ⟨e1, e2, _⟩ := hN.2.2.1 k hk
  have u1 := hU.cells (g := gu) rfl (k * 2) _ e1
  have u2 := hU.cells (g := gu) rfl (k * 2 + 1) _ e2
  rw [addr_add, Nat.zero_add] at u1 u2
  obtain ⟨_, curU, eU, _, hbU⟩ := own_row hU (by omega)
  injection eU with eU
  injection eU with eU
  subst eU
  exact ⟨gu, vs, tk, rfl, hr, hU, hN, hgu1, hgu2, fun e => own_blk_ne hU h.c (by decide) (by rw [← e]; rfl), fun e => own_blk_ne hU h.z (by decide) (by rw [← e]; rfl), u1, u2, hU.frozenAt _, hU.frozenAt _, curU, hbU⟩
theorem ClW.setU {gu i : Nat} {v : Value} {vs : List Value} {tk : Nat → Value} {us' : List Un} {cs : Array Value} (hc : Blk w C 26 #[.slice A1 m1 c1, .slice (some ⟨gu, 0, none⟩) m2 c2]) (hz : Blk w Z 26 #[.slice none 0 0, .slice none 0 0]) (o : OnlyG w0 w g) (r : Rdr w g q) (lc : w0.heap.size ≤ C) (lz : w0.heap.size ≤ Z) (ne : C ≠ Z) (lg : g < w0.heap.size)
    (hbU : Blk w gu 32 cs) (hgu : w0.heap.size ≤ gu) (h1 : gu ≠ C) (h2 : gu ≠ Z) (hr : w.ownsRow w0.heap.size 3 1 (.slice A1 m1 c1) m1 (room.map (Value.int .i64))) (hU : w.ownsRow w0.heap.size 32 2 (.slice (some ⟨gu, 0, none⟩) m2 c2) m2 vs) (hN : NdUR w w0.heap.size m2 (vs.set i v) tk us') :
    ClW w0 (w.setCell ⟨gu, i, none⟩ v) g Z C q A1 m1 c1 (some ⟨gu, 0, none⟩) m2 c2 room us' := by
  have KT := KeepTI.set_ hbU (by decide) (by decide) i v
  exact ⟨hc.far (p := ⟨gu, i, none⟩) (fun e => h1 e.symm) _, hz.far (p := ⟨gu, i, none⟩) (fun e => h2 e.symm) _, ⟨own_keepTI hr (.inl rfl) KT, _, _, own_set hU i v, hN.keepTI KT⟩, o.set_new (p := ⟨gu, i, none⟩) hgu _, r.keep (fun b hb => Below.heap_setCell _ _ _ _ (by show b ≠ gu; omega)), lc, lz, ne, lg⟩
theorem OwI.own {lo b : Nat} {xs : List Int} (h : OwI w lo b xs) (hl : xs.length = 3) : w.ownsRow lo 3 1 (.slice (some ⟨b, 0, none⟩) 3 3) 3 (xs.map (Value.int .i64)) :=
  ⟨by simp [hl], .inr ⟨b, 3, (xs.map (Value.int .i64)).toArray, rfl, h.1, h.2, Nat.le_refl _, by unfold maxLen; omega, by simp [hl], by rw [List.take_of_length_le (by simp [hl])]⟩⟩
theorem RdI.drop1 {B b : Nat} {n : Nat} {xs : List Int} (h : RdI w B (some ⟨b, 0, none⟩) (n + 1) xs) : RdI w B (some ⟨b, 1, none⟩) n (xs.drop 1) := by
  refine ⟨by rw [List.length_drop, h.1]; omega, by have := h.2.1; omega, fun hn => ?_⟩
  obtain ⟨b', o, e, hb, hc⟩ := h.2.2 (by omega)
  injection e with e
  injection e with e1 e2 e3
  subst e1 e2
  refine ⟨b, 1, rfl, hb, fun j hj => ?_⟩
  have := hc (j + 1) (by omega)
  rw [List.getElem?_drop, show 1 + j = j + 1 by omega]
  rw [Nat.zero_add] at this
  exact this
end
end Go.Proofs.YtlcgbnmmbheleaaGreat
