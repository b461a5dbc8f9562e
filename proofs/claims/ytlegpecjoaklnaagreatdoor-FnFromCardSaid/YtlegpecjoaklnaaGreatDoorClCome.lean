/- Walk: the reference's ClusterArrive. -/
import Derived.Test.YtlegpecjoaklnaaGreatDoorClCopy
import Derived.Test.YtlegpecjoaklnaaGreatDoorClArrive
namespace Go.Proofs.YtlegpecjoaklnaaGreatDoor
open Go Go.RowKit
attribute [local go_sem ↓] Go.wp_at_zero Go.wp_at_succ

/-- ClusterArrive: room, units, code. -/
def cavP (room : List Int) (us : List Un) (id : Int) (xs : List Int) (g : Bool) : List Int × List Un × Int :=
  if clOk room us = true then (if tasksOk room [(id, xs)] = true then (if 0 ≤ whereP (us.map (·.2)) id then (room, us, 2) else (room, (arvP room us id xs g).1, (arvP room us id xs g).2)) else (room, us, 1)) else ([], [], 1)
section
variable {room : List Int} {us : List Un} {id : Int} {xs : List Int} {g : Bool} {k : Nat}
theorem cavP_bad (h : clOk room us = false) : cavP room us id xs g = ([], [], 1) := by unfold cavP; rw [if_neg (by rw [h]; simp)]
theorem cavP_task (h : clOk room us = true) (h' : tasksOk room [(id, xs)] = false) : cavP room us id xs g = (room, us, 1) := by unfold cavP; rw [if_pos h, if_neg (by rw [h']; simp)]
theorem cavP_twice (h : clOk room us = true) (h' : tasksOk room [(id, xs)] = true) (hw : whereP (us.map (·.2)) id = (k : Int)) : cavP room us id xs g = (room, us, 2) := by unfold cavP; rw [if_pos h, if_pos h', if_pos (by omega)]
theorem cavP_new (h : clOk room us = true) (h' : tasksOk room [(id, xs)] = true) (hw : whereP (us.map (·.2)) id = -1) : cavP room us id xs g = (room, (arvP room us id xs g).1, (arvP room us id xs g).2) := by unfold cavP; rw [if_pos h, if_pos h', if_neg (by omega)]
theorem tkOne {w : World} {B m c : Nat} {A : Option Addr} (h : RdI w B A m xs) (hc : m ≤ c) : TkCells w B [.int .i64 id, .slice A m c] [(id, xs)] := ⟨rfl, fun j hj => by
  have e : j = 0 := by simp at hj; exact hj
  subst e
  exact ⟨A, m, c, rfl, rfl, hc, h⟩⟩
theorem whereP_or' (bs : List (List Tk)) (id : Int) : whereP bs id = -1 ∨ ∃ k : Nat, whereP bs id = (k : Int) := by
  unfold whereP
  cases h : bs.findIdx? (fun b => hasP b id) with
  | none => exact .inl rfl
  | some i => exact .inr ⟨i, rfl⟩
end

set_option maxRecDepth 100000 in
set_option maxHeartbeats 3200000 in
theorem clusterArrive_any (A1 A2 A3 : Option Addr) (n1 c1 n2 c2 n3 c3 : Nat) (room : List Int) (us : List Un) (id : Int) (xs : List Int) (g : Bool) (w : World) (h : RdC w A1 A2 n1 n2 room us) (hs : ShU us) (hn1 : n1 ≤ 1048576) (hx : RdI w w.heap.size A3 n3 xs) (hc3 : n3 ≤ c3) :
    Calls Tryz.prog 84 #[.agg #[.slice A1 n1 c1, .slice A2 n2 c2], .agg #[.int .i64 id, .slice A3 n3 c3], .bool g] w fun e w' => ∃ A4 m4 c4 A5 m5 c5, e = .returned (.tuple #[.agg #[.slice A4 m4 c4, .slice A5 m5 c5], .int .i64 (cavP room us id xs g).2.2]) ∧ OwnCR w' w.heap.size (.slice A4 m4 c4) (.slice A5 m5 c5) m4 m5 (cavP room us id xs g).1 (cavP room us id xs g).2.1 ∧ Below w.heap.size w w' := by
  have hl := Lib.hid h.b.len
  have H := Lib.hid h
  have Hsh := Lib.hid hs
  have HX := Lib.hid hx
  have ln : n2 ≤ 1000 := by have := h.b.len; have := hs.1; omega
  have sz : (w.alloc (.cells #[.slice A1 n1 c1, .slice A2 n2 c2] 26)).heap.size = w.heap.size + 1 := World.size_alloc _ _
  have sz2 : ((w.alloc (.cells #[.slice A1 n1 c1, .slice A2 n2 c2] 26)).alloc (.cells #[.int .i64 id, .slice A3 n3 c3] 33)).heap.size = w.heap.size + 2 := by rw [World.size_alloc, sz]
  have B1 := Lib.hid (((alloc_up w (.cells #[.slice A1 n1 c1, .slice A2 n2 c2] 26)).alloc (by rw [sz]; omega) (.cells #[.int .i64 id, .slice A3 n3 c3] 33)).alloc (by rw [sz2]; omega) (.cells #[.slice none 0 0, .slice none 0 0] 26))
  have P1 := Lib.hid (((Blk.new w 26 #[.slice A1 n1 c1, .slice A2 n2 c2]).alloc (.cells #[.int .i64 id, .slice A3 n3 c3] 33)).alloc (.cells #[.slice none 0 0, .slice none 0 0] 26))
  have hT := (Blk.new (w.alloc (.cells #[.slice A1 n1 c1, .slice A2 n2 c2] 26)) 33 #[.int .i64 id, .slice A3 n3 c3]).alloc (.cells #[.slice none 0 0, .slice none 0 0] 26)
  rw [sz] at hT
  have T1 := Lib.hid hT
  have hZ := Blk.new ((w.alloc (.cells #[.slice A1 n1 c1, .slice A2 n2 c2] 26)).alloc (.cells #[.int .i64 id, .slice A3 n3 c3] 33)) 26 #[.slice none 0 0, .slice none 0 0]
  rw [sz2] at hZ
  have Z1 := Lib.hid hZ
  clear h hs hx hT hZ sz sz2
  have y0 := (P1.out).cell 0
  have y1 := (P1.out).cell 1
  simp only [List.getElem?_toArray, List.getElem?_cons_zero, List.getElem?_cons_succ] at y0 y1
  have y2 := (P1.out).frozen 0
  have y3 := (P1.out).frozen 1
  go_enter Tryz.func84, Tryz.ntmps84
  go_wp2_with fail
  generalize ((w.alloc (.cells #[.slice A1 n1 c1, .slice A2 n2 c2] 26)).alloc (.cells #[.int .i64 id, .slice A3 n3 c3] 33)).alloc (.cells #[.slice none 0 0, .slice none 0 0] 26) = w1 at B1 P1 T1 Z1 y0 y1 y2 y3 ⊢
  refine (clusterValidS_any A1 A2 n1 c1 n2 c2 room us w1 (H.out.up B1.out) Hsh.out).mono ?_; rintro e w2 ⟨rfl, hb2⟩
  have B2 := Lib.hid (below_to B1.out hb2)
  have P2 := Lib.hid (P1.out.below hb2 P1.out.lt)
  have T2 := Lib.hid (T1.out.below hb2 T1.out.lt)
  have Z2 := Lib.hid (Z1.out.below hb2 Z1.out.lt)
  clear hb2 y0 y1 y2 y3 B1 P1 T1 Z1
  have y0 := (P2.out).cell 0
  have y1 := (P2.out).cell 1
  simp only [List.getElem?_toArray, List.getElem?_cons_zero, List.getElem?_cons_succ] at y0 y1
  have y2 := (P2.out).frozen 0
  have y3 := (P2.out).frozen 1
  have t0 := (T2.out).cell 0
  have t1 := (T2.out).cell 1
  simp only [List.getElem?_toArray, List.getElem?_cons_zero, List.getElem?_cons_succ] at t0 t1
  have t2 := (T2.out).frozen 0
  have t3 := (T2.out).frozen 1
  cases hok : clOk room us with
  | false =>
    have Hp := Lib.hid (cavP_bad (id := id) (xs := xs) (g := g) hok)
    have x0 := (Z2.out).cell 0
    have x1 := (Z2.out).cell 1
    simp only [List.getElem?_toArray, List.getElem?_cons_zero, List.getElem?_cons_succ] at x0 x1
    have x2 := (Z2.out).frozen 0
    have x3 := (Z2.out).frozen 1
    go_wp2_with fail
    have KT := (KeepTU.set_ (Z2.out) (by decide) (by decide) (by decide) 0 (.slice none 0 0)).trans (KeepTU.set_ ((Z2.out).set_ 0 (.slice none 0 0)) (by decide) (by decide) (by decide) 1 (.slice none 0 0))
    have EQ := Lib.hid (((Z2.out).set_ 0 (.slice none 0 0)).set_ 1 (.slice none 0 0))
    have B9 := Lib.hid (((B2.out).setCell (p := ⟨w.heap.size + 2, 0, none⟩) (by show w.heap.size ≤ w.heap.size + 2; omega) (.slice none 0 0)).setCell (p := ⟨w.heap.size + 2, 1, none⟩) (by show w.heap.size ≤ w.heap.size + 2; omega) (.slice none 0 0))
    have OC := Lib.hid (((OwnCR.none : OwnCR w2 w.heap.size (.slice none 0 0) (.slice none 0 0) 0 0 [] [])).keepTU KT)
    clear KT
    generalize World.setCell (World.setCell w2 ⟨w.heap.size + 2, 0, none⟩ (.slice none 0 0)) ⟨w.heap.size + 2, 1, none⟩ (.slice none 0 0) = w9 at EQ B9 OC ⊢
    have z0 : w9.cell? ⟨w.heap.size + 2, 0, none⟩ = some (.slice none 0 0) := EQ.out.cell 0
    have z1 : w9.cell? ⟨w.heap.size + 2, 1, none⟩ = some (.slice none 0 0) := EQ.out.cell 1
    refine bodyPost_ret (v := .tuple #[.agg #[(.slice none 0 0), (.slice none 0 0)], .int .i64 1]) (by simp [results, Tryz.results84, go_sem, z0, z1]) rfl ⟨none, 0, 0, none, 0, 0, by rw [Hp.out], ?_, B9.out⟩
    rw [Hp.out]
    exact OC.out
  | true =>
    have Hok := Lib.hid hok
    clear hok
    go_wp2_with fail
    refine (l21Copy_any A1 A2 n1 c1 n2 c2 room us w2 (H.out.up B2.out) Hsh.out hn1).mono ?_; rintro e w3 ⟨A6, c6, A4, c4, rfl, hoc, hb3⟩
    have d4 := below_to hb3 (alloc_up w3 (.cells #[.slice A6 n1 c6, .slice A4 n2 c4] 26))
    have B4 := Lib.hid (below_to B2.out d4)
    have P4 := Lib.hid (P2.out.below d4 P2.out.lt)
    have T4 := Lib.hid (T2.out.below d4 T2.out.lt)
    have Z4 := Lib.hid (Z2.out.below d4 Z2.out.lt)
    have Q4 := Lib.hid (Blk.new w3 26 #[.slice A6 n1 c6, .slice A4 n2 c4])
    have OC4 := Lib.hid (((OwnCR.of hoc).low B2.out.size).keepTU (KeepTU.up (alloc_up w3 (.cells #[.slice A6 n1 c6, .slice A4 n2 c4] 26))))
    clear hoc hb3 d4 y0 y1 y2 y3 t0 t1 t2 t3 B2 P2 T2 Z2
    have lg : (w3.alloc (.cells #[.slice A6 n1 c6, .slice A4 n2 c4] 26)).heap.size = w3.heap.size + 1 := World.size_alloc _ _
    have y0 := (P4.out).cell 0
    have y1 := (P4.out).cell 1
    simp only [List.getElem?_toArray, List.getElem?_cons_zero, List.getElem?_cons_succ] at y0 y1
    have y2 := (P4.out).frozen 0
    have y3 := (P4.out).frozen 1
    have t0 := (T4.out).cell 0
    have t1 := (T4.out).cell 1
    simp only [List.getElem?_toArray, List.getElem?_cons_zero, List.getElem?_cons_succ] at t0 t1
    have t2 := (T4.out).frozen 0
    have t3 := (T4.out).frozen 1
    have q0 := (Q4.out).cell 0
    have q1 := (Q4.out).cell 1
    simp only [List.getElem?_toArray, List.getElem?_cons_zero, List.getElem?_cons_succ] at q0 q1
    have q2 := (Q4.out).frozen 0
    have q3 := (Q4.out).frozen 1
    go_wp2_with fail
    generalize hg6 : w3.heap.size = g6 at Q4 q0 q1 q2 q3 lg ⊢
    clear hg6
    generalize w3.alloc (.cells #[.slice A6 n1 c6, .slice A4 n2 c4] 26) = w4 at B4 P4 T4 Z4 Q4 OC4 lg y0 y1 y2 y3 t0 t1 t2 t3 q0 q1 q2 q3 ⊢
    clear y0 y1 y2 y3 t0 t1 t2 t3 q0 q1 q2 q3
    have d5 := alloc_up w4 (.cells #[.int .i64 id, .slice A3 n3 c3] 33)
    have B5 := Lib.hid (below_to B4.out d5)
    have P5 := Lib.hid (P4.out.below d5 P4.out.lt)
    have T5 := Lib.hid (T4.out.below d5 T4.out.lt)
    have Z5 := Lib.hid (Z4.out.below d5 Z4.out.lt)
    have Q5 := Lib.hid (Q4.out.below d5 Q4.out.lt)
    have OC5 := Lib.hid (OC4.out.keepTU (KeepTU.up d5))
    have hR := (RdT.of_own (own_built (w := w4) (base := w.heap.size) 33 (.int .i64 id) (.slice A3 n3 c3) B4.out.size) (tkOne (id := id) (HX.out.below B5.out) hc3) B5.out.size (by omega))
    rw [lg] at hR
    have R5 := Lib.hid hR
    clear d5 B4 P4 T4 Z4 Q4 OC4 lg hR
    generalize w4.alloc (.cells #[.int .i64 id, .slice A3 n3 c3] 33) = w5 at B5 P5 T5 Z5 Q5 OC5 R5 ⊢
    refine (tasksValidS_any A1 (some ⟨g6 + 1, 0, none⟩) n1 c1 1 1 room [(id, xs)] w5 (H.out.up B5.out).a R5.out).mono ?_; rintro e w6 ⟨rfl, m6, rfl⟩
    have B6 := Lib.hid (below_drewN B5.out m6)
    have P6 := Lib.hid (P5.out.drewN m6)
    have T6 := Lib.hid (T5.out.drewN m6)
    have Z6 := Lib.hid (Z5.out.drewN m6)
    have Q6 := Lib.hid (Q5.out.drewN m6)
    have OC6 := Lib.hid (show OwnCR (w5.drewN m6) w.heap.size (.slice A6 n1 c6) (.slice A4 n2 c4) n1 n2 room us from OC5.out.keepTU (fun _ _ => rfl))
    clear B5 P5 T5 Z5 Q5 OC5 R5
    generalize w5.drewN m6 = w6 at B6 P6 T6 Z6 Q6 OC6 ⊢
    have y0 := (P6.out).cell 0
    have y1 := (P6.out).cell 1
    simp only [List.getElem?_toArray, List.getElem?_cons_zero, List.getElem?_cons_succ] at y0 y1
    have y2 := (P6.out).frozen 0
    have y3 := (P6.out).frozen 1
    have t0 := (T6.out).cell 0
    have t1 := (T6.out).cell 1
    simp only [List.getElem?_toArray, List.getElem?_cons_zero, List.getElem?_cons_succ] at t0 t1
    have t2 := (T6.out).frozen 0
    have t3 := (T6.out).frozen 1
    have q0 := (Q6.out).cell 0
    have q1 := (Q6.out).cell 1
    simp only [List.getElem?_toArray, List.getElem?_cons_zero, List.getElem?_cons_succ] at q0 q1
    have q2 := (Q6.out).frozen 0
    have q3 := (Q6.out).frozen 1
    cases htk : tasksOk room [(id, xs)] with
    | false =>
      have Hp := Lib.hid (cavP_task (g := g) Hok.out htk)
      have x0 := (Z6.out).cell 0
      have x1 := (Z6.out).cell 1
      simp only [List.getElem?_toArray, List.getElem?_cons_zero, List.getElem?_cons_succ] at x0 x1
      have x2 := (Z6.out).frozen 0
      have x3 := (Z6.out).frozen 1
      go_wp2_with fail
      have KT := (KeepTU.set_ (Z6.out) (by decide) (by decide) (by decide) 0 (.slice A6 n1 c6)).trans (KeepTU.set_ ((Z6.out).set_ 0 (.slice A6 n1 c6)) (by decide) (by decide) (by decide) 1 (.slice A4 n2 c4))
      have EQ := Lib.hid (((Z6.out).set_ 0 (.slice A6 n1 c6)).set_ 1 (.slice A4 n2 c4))
      have B9 := Lib.hid (((B6.out).setCell (p := ⟨w.heap.size + 2, 0, none⟩) (by show w.heap.size ≤ w.heap.size + 2; omega) (.slice A6 n1 c6)).setCell (p := ⟨w.heap.size + 2, 1, none⟩) (by show w.heap.size ≤ w.heap.size + 2; omega) (.slice A4 n2 c4))
      have OC := Lib.hid ((OC6.out).keepTU KT)
      clear KT
      generalize World.setCell (World.setCell w6 ⟨w.heap.size + 2, 0, none⟩ (.slice A6 n1 c6)) ⟨w.heap.size + 2, 1, none⟩ (.slice A4 n2 c4) = w9 at EQ B9 OC ⊢
      have z0 : w9.cell? ⟨w.heap.size + 2, 0, none⟩ = some (.slice A6 n1 c6) := EQ.out.cell 0
      have z1 : w9.cell? ⟨w.heap.size + 2, 1, none⟩ = some (.slice A4 n2 c4) := EQ.out.cell 1
      refine bodyPost_ret (v := .tuple #[.agg #[(.slice A6 n1 c6), (.slice A4 n2 c4)], .int .i64 1]) (by simp [results, Tryz.results84, go_sem, z0, z1]) rfl ⟨A6, n1, c6, A4, n2, c4, by rw [Hp.out], ?_, B9.out⟩
      rw [Hp.out]
      exact OC.out
    | true =>
      have Htk := Lib.hid htk
      clear htk
      have Hv := Lib.hid (tasksOk_vecs Htk.out (id, xs) (List.mem_singleton.2 rfl))
      have hn3 : n3 = 3 := by have := HX.out.len; have := vecOk_len Hv.out; dsimp only at this; omega
      subst hn3
      go_wp2_with fail
      have B7 := Lib.hid B6.out.drew
      have P7 := Lib.hid P6.out.drew
      have T7 := Lib.hid T6.out.drew
      have Z7 := Lib.hid Z6.out.drew
      have Q7 := Lib.hid Q6.out.drew
      have OC7 := Lib.hid (show OwnCR w6.drew w.heap.size (.slice A6 n1 c6) (.slice A4 n2 c4) n1 n2 room us from OC6.out.keepTU (fun _ _ => rfl))
      clear y0 y1 y2 y3 t0 t1 t2 t3 q0 q1 q2 q3 B6 P6 T6 Z6 Q6 OC6
      have hS := Lib.hid (fun w' (hb : Below w6.drew.heap.size w6.drew w') => (⟨(P7.out.below hb P7.out.lt).cell 0, (P7.out.below hb P7.out.lt).cell 1, (T7.out.below hb T7.out.lt).cell 0⟩ : w'.cell? ⟨w.heap.size, 0, none⟩ = some (.slice A1 n1 c1) ∧ w'.cell? ⟨w.heap.size, 1, none⟩ = some (.slice A2 n2 c2) ∧ w'.cell? ⟨w.heap.size + 1, 0, none⟩ = some (.int .i64 id)))
      have K0 := hS.out w6.drew (Below.refl _ _)
      refine wp_region_mix (.take 2 (.take 3 (.take 0 (.bar 1 (.bar 4 (.take 5 .nil)))))) (fun w' => w'.cell? ⟨w.heap.size, 0, none⟩ = some (.slice A1 n1 c1) ∧ w'.cell? ⟨w.heap.size, 1, none⟩ = some (.slice A2 n2 c2) ∧ w'.cell? ⟨w.heap.size + 1, 0, none⟩ = some (.int .i64 id)) (by kernel_rfl) (by kernel_rfl) K0 (fun _ => ?_)
      repeat (first | (refine wpMix_skip (by rfl) (by rfl) ?_; (try simp only [Act.put, List.setIfInBounds_toArray, List.set_cons_zero, List.set_cons_succ])) | (refine wpMix_take (v := ?_) (by rfl) (by rfl) (fun wS hSt => ?_) ?_; rotate_left; (focus ((try dsimp only at hSt); (go_simp <;> with_reducible rfl); done)); (try simp only [Act.put, List.setIfInBounds_toArray, List.set_cons_zero, List.set_cons_succ])))
      clear K0
      generalize w6.drew = w7 at B7 P7 T7 Z7 Q7 OC7 hS ⊢
      (refine wpMix_bar (by rfl) (fun K hK => ?_); go_simp)
      refine (l21Bins_any A1 A2 n1 c1 n2 c2 us w7 (H.out.up B7.out).b ln).mono ?_; rintro e w8 ⟨A8, m8, c8, rfl, hr8, hb8⟩
      have hcall := Lib.hid (l2Where_any A8 m8 c8 (us.map (·.2)) id w8 hr8)
      have B8 := Lib.hid (below_to B7.out hb8)
      have P8 := Lib.hid (P7.out.below hb8 P7.out.lt)
      have T8 := Lib.hid (T7.out.below hb8 T7.out.lt)
      have Z8 := Lib.hid (Z7.out.below hb8 Z7.out.lt)
      have Q8 := Lib.hid (Q7.out.below hb8 Q7.out.lt)
      have OC8 := Lib.hid (OC7.out.keepTU (KeepTU.up hb8))
      ((try dsimp only); refine hK.out _ _ (hS.out _ hb8) (fun hSw => ?_); (try clear hSw); clear hK K; (try simp only [Act.put, List.setIfInBounds_toArray, List.set_cons_zero, List.set_cons_succ]))
      clear hb8 hr8 B7 P7 T7 Z7 Q7 OC7 hS
      rcases whereP_or' (us.map (·.2)) id with hw | ⟨k, hw⟩
      · have Hp := Lib.hid (cavP_new (g := g) Hok.out Htk.out hw)
        rw [hw] at hcall
        clear hw
        (refine wpMix_bar (by rfl) (fun K hK => ?_); go_simp)
        refine hcall.out.mono ?_; rintro e w9 ⟨rfl, m9, rfl⟩
        have Ba := Lib.hid (below_drewN B8.out m9)
        have Pa := Lib.hid (P8.out.drewN m9)
        have Ta := Lib.hid (T8.out.drewN m9)
        have Za := Lib.hid (Z8.out.drewN m9)
        have Qa := Lib.hid (Q8.out.drewN m9)
        have OCa := Lib.hid (show OwnCR (w8.drewN m9) w.heap.size (.slice A6 n1 c6) (.slice A4 n2 c4) n1 n2 room us from OC8.out.keepTU (fun _ _ => rfl))
        ((try dsimp only); refine hK.out _ _ (⟨Pa.out.cell 0, Pa.out.cell 1, Ta.out.cell 0⟩) (fun hSw => ?_); (try clear hSw); clear hK K; (try simp only [Act.put, List.setIfInBounds_toArray, List.set_cons_zero, List.set_cons_succ]))
        clear hcall B8 P8 T8 Z8 Q8 OC8
        repeat (first | (refine wpMix_skip (by rfl) (by rfl) ?_; (try simp only [Act.put, List.setIfInBounds_toArray, List.set_cons_zero, List.set_cons_succ])) | (refine wpMix_take (v := ?_) (by rfl) (by rfl) (fun wS hSt => ?_) ?_; rotate_left; (focus ((try dsimp only at hSt); (go_simp <;> with_reducible rfl); done)); (try simp only [Act.put, List.setIfInBounds_toArray, List.set_cons_zero, List.set_cons_succ])))
        refine wpMix_nil ?_
        generalize w8.drewN m9 = wa at Ba Pa Ta Za Qa OCa ⊢
        have y0 := (Pa.out).cell 0
        have y1 := (Pa.out).cell 1
        simp only [List.getElem?_toArray, List.getElem?_cons_zero, List.getElem?_cons_succ] at y0 y1
        have y2 := (Pa.out).frozen 0
        have y3 := (Pa.out).frozen 1
        have t0 := (Ta.out).cell 0
        have t1 := (Ta.out).cell 1
        simp only [List.getElem?_toArray, List.getElem?_cons_zero, List.getElem?_cons_succ] at t0 t1
        have t2 := (Ta.out).frozen 0
        have t3 := (Ta.out).frozen 1
        have q0 := (Qa.out).cell 0
        have q1 := (Qa.out).cell 1
        simp only [List.getElem?_toArray, List.getElem?_cons_zero, List.getElem?_cons_succ] at q0 q1
        have q2 := (Qa.out).frozen 0
        have q3 := (Qa.out).frozen 1
        go_wp2_with fail
        refine (l21Arrive_any w.heap.size A6 A4 A3 n1 c6 n2 c4 c3 room us id xs g wa Ba.out.size OCa.out (HX.out.below Ba.out) Hok.out Hv.out).mono ?_; rintro e wb ⟨rfl, hocb, hbb, hkc⟩
        have Bb := Lib.hid (Ba.out.trans hbb)
        have OCb := Lib.hid hocb
        have Zb := Lib.hid (hkc.blk Za.out)
        have x0 := (Zb.out).cell 0
        have x1 := (Zb.out).cell 1
        simp only [List.getElem?_toArray, List.getElem?_cons_zero, List.getElem?_cons_succ] at x0 x1
        have x2 := (Zb.out).frozen 0
        have x3 := (Zb.out).frozen 1
        clear hkc hocb hbb y0 y1 y2 y3 t0 t1 t2 t3 q0 q1 q2 q3 Ba Pa Ta Za Qa OCa
        have Hp2 := Lib.hid (show (cavP room us id xs g).2.2 = (arvP room us id xs g).2 by rw [Hp.out])
        go_wp2_with fail
        have KT := (KeepTU.set_ (Zb.out) (by decide) (by decide) (by decide) 0 (.slice A6 n1 c6)).trans (KeepTU.set_ ((Zb.out).set_ 0 (.slice A6 n1 c6)) (by decide) (by decide) (by decide) 1 (.slice A4 n2 c4))
        have EQ := Lib.hid (((Zb.out).set_ 0 (.slice A6 n1 c6)).set_ 1 (.slice A4 n2 c4))
        have B9 := Lib.hid (((Bb.out).setCell (p := ⟨w.heap.size + 2, 0, none⟩) (by show w.heap.size ≤ w.heap.size + 2; omega) (.slice A6 n1 c6)).setCell (p := ⟨w.heap.size + 2, 1, none⟩) (by show w.heap.size ≤ w.heap.size + 2; omega) (.slice A4 n2 c4))
        have OC := Lib.hid ((OCb.out).keepTU KT)
        clear KT
        generalize World.setCell (World.setCell wb ⟨w.heap.size + 2, 0, none⟩ (.slice A6 n1 c6)) ⟨w.heap.size + 2, 1, none⟩ (.slice A4 n2 c4) = w9 at EQ B9 OC ⊢
        have z0 : w9.cell? ⟨w.heap.size + 2, 0, none⟩ = some (.slice A6 n1 c6) := EQ.out.cell 0
        have z1 : w9.cell? ⟨w.heap.size + 2, 1, none⟩ = some (.slice A4 n2 c4) := EQ.out.cell 1
        refine bodyPost_ret (v := .tuple #[.agg #[(.slice A6 n1 c6), (.slice A4 n2 c4)], .int .i64 (arvP room us id xs g).2]) (by simp [results, Tryz.results84, go_sem, z0, z1]) rfl ⟨A6, n1, c6, A4, n2, c4, by rw [Hp.out], ?_, B9.out⟩
        rw [Hp.out]
        exact OC.out
      · have Hp := Lib.hid (cavP_twice (g := g) Hok.out Htk.out hw)
        rw [hw] at hcall
        clear hw
        (refine wpMix_bar (by rfl) (fun K hK => ?_); go_simp)
        refine hcall.out.mono ?_; rintro e w9 ⟨rfl, m9, rfl⟩
        have Ba := Lib.hid (below_drewN B8.out m9)
        have Pa := Lib.hid (P8.out.drewN m9)
        have Ta := Lib.hid (T8.out.drewN m9)
        have Za := Lib.hid (Z8.out.drewN m9)
        have Qa := Lib.hid (Q8.out.drewN m9)
        have OCa := Lib.hid (show OwnCR (w8.drewN m9) w.heap.size (.slice A6 n1 c6) (.slice A4 n2 c4) n1 n2 room us from OC8.out.keepTU (fun _ _ => rfl))
        ((try dsimp only); refine hK.out _ _ (⟨Pa.out.cell 0, Pa.out.cell 1, Ta.out.cell 0⟩) (fun hSw => ?_); (try clear hSw); clear hK K; (try simp only [Act.put, List.setIfInBounds_toArray, List.set_cons_zero, List.set_cons_succ]))
        clear hcall B8 P8 T8 Z8 Q8 OC8
        repeat (first | (refine wpMix_skip (by rfl) (by rfl) ?_; (try simp only [Act.put, List.setIfInBounds_toArray, List.set_cons_zero, List.set_cons_succ])) | (refine wpMix_take (v := ?_) (by rfl) (by rfl) (fun wS hSt => ?_) ?_; rotate_left; (focus ((try dsimp only at hSt); (go_simp <;> with_reducible rfl); done)); (try simp only [Act.put, List.setIfInBounds_toArray, List.set_cons_zero, List.set_cons_succ])))
        refine wpMix_nil ?_
        generalize w8.drewN m9 = wa at Ba Pa Ta Za Qa OCa ⊢
        have q0 := (Qa.out).cell 0
        have q1 := (Qa.out).cell 1
        simp only [List.getElem?_toArray, List.getElem?_cons_zero, List.getElem?_cons_succ] at q0 q1
        have q2 := (Qa.out).frozen 0
        have q3 := (Qa.out).frozen 1
        have x0 := (Za.out).cell 0
        have x1 := (Za.out).cell 1
        simp only [List.getElem?_toArray, List.getElem?_cons_zero, List.getElem?_cons_succ] at x0 x1
        have x2 := (Za.out).frozen 0
        have x3 := (Za.out).frozen 1
        go_wp2_with fail
        have KT := (KeepTU.set_ (Za.out) (by decide) (by decide) (by decide) 0 (.slice A6 n1 c6)).trans (KeepTU.set_ ((Za.out).set_ 0 (.slice A6 n1 c6)) (by decide) (by decide) (by decide) 1 (.slice A4 n2 c4))
        have EQ := Lib.hid (((Za.out).set_ 0 (.slice A6 n1 c6)).set_ 1 (.slice A4 n2 c4))
        have B9 := Lib.hid (((Ba.out).setCell (p := ⟨w.heap.size + 2, 0, none⟩) (by show w.heap.size ≤ w.heap.size + 2; omega) (.slice A6 n1 c6)).setCell (p := ⟨w.heap.size + 2, 1, none⟩) (by show w.heap.size ≤ w.heap.size + 2; omega) (.slice A4 n2 c4))
        have OC := Lib.hid ((OCa.out).keepTU KT)
        clear KT
        generalize World.setCell (World.setCell wa ⟨w.heap.size + 2, 0, none⟩ (.slice A6 n1 c6)) ⟨w.heap.size + 2, 1, none⟩ (.slice A4 n2 c4) = w9 at EQ B9 OC ⊢
        have z0 : w9.cell? ⟨w.heap.size + 2, 0, none⟩ = some (.slice A6 n1 c6) := EQ.out.cell 0
        have z1 : w9.cell? ⟨w.heap.size + 2, 1, none⟩ = some (.slice A4 n2 c4) := EQ.out.cell 1
        refine bodyPost_ret (v := .tuple #[.agg #[(.slice A6 n1 c6), (.slice A4 n2 c4)], .int .i64 2]) (by simp [results, Tryz.results84, go_sem, z0, z1]) rfl ⟨A6, n1, c6, A4, n2, c4, by rw [Hp.out], ?_, B9.out⟩
        rw [Hp.out]
        exact OC.out
end Go.Proofs.YtlegpecjoaklnaaGreatDoor
