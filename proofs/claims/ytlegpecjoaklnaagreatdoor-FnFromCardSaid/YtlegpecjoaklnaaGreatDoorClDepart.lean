/- Walk: the reference's ClusterDepart. -/
import Derived.Test.YtlegpecjoaklnaaGreatDoorClCopy
import Derived.Test.YtlegpecjoaklnaaGreatDoorClTake15
namespace Go.Proofs.YtlegpecjoaklnaaGreatDoor
open Go Go.RowKit
attribute [local go_sem ↓] Go.wp_at_zero Go.wp_at_succ

theorem whereP_or (bs : List (List Tk)) (id : Int) : whereP bs id = -1 ∨ ∃ k : Nat, whereP bs id = (k : Int) ∧ k < bs.length := by
  unfold whereP
  cases h : bs.findIdx? (fun b => hasP b id) with
  | none => exact .inl rfl
  | some i =>
    rw [List.findIdx?_eq_some_iff_getElem] at h
    obtain ⟨hi, _⟩ := h
    exact .inr ⟨i, rfl, hi⟩
/-- ClusterDepart: room, units, code. -/
def depP (room : List Int) (us : List Un) (id : Int) : List Int × List Un × Int :=
  if clOk room us = true then (if whereP (us.map (·.2)) id < 0 then (room, us, 4) else (room, us.set (whereP (us.map (·.2)) id).toNat ((us[(whereP (us.map (·.2)) id).toNat]?.getD (false, [])).1, takeP (us[(whereP (us.map (·.2)) id).toNat]?.getD (false, [])).2 id), 0)) else ([], [], 1)
theorem depP_bad {room : List Int} {us : List Un} {id : Int} (h : clOk room us = false) : depP room us id = ([], [], 1) := by unfold depP; rw [if_neg (by rw [h]; simp)]
theorem depP_none {room : List Int} {us : List Un} {id : Int} (h : clOk room us = true) (hw : whereP (us.map (·.2)) id = -1) : depP room us id = (room, us, 4) := by unfold depP; rw [if_pos h, hw, if_pos (by omega)]
theorem depP_yes {room : List Int} {us : List Un} {id : Int} {k : Nat} (h : clOk room us = true) (hw : whereP (us.map (·.2)) id = (k : Int)) : depP room us id = (room, us.set k ((us[k]?.getD (false, [])).1, takeP (us[k]?.getD (false, [])).2 id), 0) := by
  unfold depP; rw [if_pos h, hw, if_neg (by omega), Int.toNat_natCast]

set_option maxRecDepth 100000 in
set_option maxHeartbeats 3200000 in
theorem clusterDepart_any (A1 A2 : Option Addr) (n1 c1 n2 c2 : Nat) (room : List Int) (us : List Un) (id : Int) (w : World) (h : RdC w A1 A2 n1 n2 room us) (hs : ShU us) (hn1 : n1 ≤ 1048576) :
    Calls Tryz.prog 85 #[.agg #[.slice A1 n1 c1, .slice A2 n2 c2], .int .i64 id] w fun e w' => ∃ A3 m3 c3 A4 m4 c4, e = .returned (.tuple #[.agg #[.slice A3 m3 c3, .slice A4 m4 c4], .int .i64 (depP room us id).2.2]) ∧ OwnCR w' w.heap.size (.slice A3 m3 c3) (.slice A4 m4 c4) m3 m4 (depP room us id).1 (depP room us id).2.1 ∧ Below w.heap.size w w' := by
  have hl := Lib.hid h.b.len
  have H := Lib.hid h
  have Hsh := Lib.hid hs
  have ln : n2 ≤ 1000 := by have := h.b.len; have := hs.1; omega
  clear h hs
  have sz : (w.alloc (.cells #[.slice A1 n1 c1, .slice A2 n2 c2] 26)).heap.size = w.heap.size + 1 := World.size_alloc _ _
  have B1 := Lib.hid ((alloc_up w (.cells #[.slice A1 n1 c1, .slice A2 n2 c2] 26)).alloc (by rw [sz]; omega) (.cells #[.slice none 0 0, .slice none 0 0] 26))
  have P1 := Lib.hid ((Blk.new w 26 #[.slice A1 n1 c1, .slice A2 n2 c2]).alloc (.cells #[.slice none 0 0, .slice none 0 0] 26))
  have hZ := Blk.new (w.alloc (.cells #[.slice A1 n1 c1, .slice A2 n2 c2] 26)) 26 #[.slice none 0 0, .slice none 0 0]
  rw [sz] at hZ
  have Z1 := Lib.hid hZ
  clear hZ sz
  have y0 := (P1.out).cell 0
  have y1 := (P1.out).cell 1
  simp only [List.getElem?_toArray, List.getElem?_cons_zero, List.getElem?_cons_succ] at y0 y1
  have y2 := (P1.out).frozen 0
  have y3 := (P1.out).frozen 1
  go_enter Tryz.func85, Tryz.ntmps85
  go_wp2_with fail
  generalize (w.alloc (.cells #[.slice A1 n1 c1, .slice A2 n2 c2] 26)).alloc (.cells #[.slice none 0 0, .slice none 0 0] 26) = w1 at B1 P1 Z1 y0 y1 y2 y3 ⊢
  refine (clusterValidS_any A1 A2 n1 c1 n2 c2 room us w1 (H.out.up B1.out) Hsh.out).mono ?_; rintro e w2 ⟨rfl, hb2⟩
  have B2 := Lib.hid (below_to B1.out hb2)
  have P2 := Lib.hid (P1.out.below hb2 P1.out.lt)
  have Z2 := Lib.hid (Z1.out.below hb2 Z1.out.lt)
  clear hb2 y0 y1 y2 y3 B1 P1 Z1
  have y0 := (P2.out).cell 0
  have y1 := (P2.out).cell 1
  simp only [List.getElem?_toArray, List.getElem?_cons_zero, List.getElem?_cons_succ] at y0 y1
  have y2 := (P2.out).frozen 0
  have y3 := (P2.out).frozen 1
  cases hok : clOk room us with
  | false =>
    have Hp := Lib.hid (depP_bad (id := id) hok)
    have x0 := (Z2.out).cell 0
    have x1 := (Z2.out).cell 1
    simp only [List.getElem?_toArray, List.getElem?_cons_zero, List.getElem?_cons_succ] at x0 x1
    have x2 := (Z2.out).frozen 0
    have x3 := (Z2.out).frozen 1
    go_wp2_with fail
    have KT := (KeepTU.set_ (Z2.out) (by decide) (by decide) (by decide) 0 (.slice none 0 0)).trans (KeepTU.set_ ((Z2.out).set_ 0 (.slice none 0 0)) (by decide) (by decide) (by decide) 1 (.slice none 0 0))
    have EQ := Lib.hid (((Z2.out).set_ 0 (.slice none 0 0)).set_ 1 (.slice none 0 0))
    have B9 := Lib.hid (((B2.out).setCell (p := ⟨w.heap.size + 1, 0, none⟩) (by show w.heap.size ≤ w.heap.size + 1; omega) (.slice none 0 0)).setCell (p := ⟨w.heap.size + 1, 1, none⟩) (by show w.heap.size ≤ w.heap.size + 1; omega) (.slice none 0 0))
    have OC := Lib.hid (((OwnCR.none : OwnCR w2 w.heap.size (.slice none 0 0) (.slice none 0 0) 0 0 [] [])).keepTU KT)
    clear KT
    generalize World.setCell (World.setCell w2 ⟨w.heap.size + 1, 0, none⟩ (.slice none 0 0)) ⟨w.heap.size + 1, 1, none⟩ (.slice none 0 0) = w9 at EQ B9 OC ⊢
    have z0 : w9.cell? ⟨w.heap.size + 1, 0, none⟩ = some (.slice none 0 0) := EQ.out.cell 0
    have z1 : w9.cell? ⟨w.heap.size + 1, 1, none⟩ = some (.slice none 0 0) := EQ.out.cell 1
    refine bodyPost_ret (v := .tuple #[.agg #[(.slice none 0 0), (.slice none 0 0)], .int .i64 1]) (by simp [results, Tryz.results85, go_sem, z0, z1]) rfl ⟨none, 0, 0, none, 0, 0, by rw [Hp.out], ?_, B9.out⟩
    rw [Hp.out]
    exact OC.out
  | true =>
    have Hok := Lib.hid hok
    clear hok
    go_wp2_with fail
    refine (l21Copy_any A1 A2 n1 c1 n2 c2 room us w2 (H.out.up B2.out) Hsh.out hn1).mono ?_; rintro e w3 ⟨A3, c3, A4, c4, rfl, hoc, hb3⟩
    have d4 := below_to hb3 (alloc_up w3 (.cells #[.slice A3 n1 c3, .slice A4 n2 c4] 26))
    have B4 := Lib.hid (below_to B2.out d4)
    have P4 := Lib.hid (P2.out.below d4 P2.out.lt)
    have Z4 := Lib.hid (Z2.out.below d4 Z2.out.lt)
    have Q4 := Lib.hid (Blk.new w3 26 #[.slice A3 n1 c3, .slice A4 n2 c4])
    have OC4 := Lib.hid (((OwnCR.of hoc).low B2.out.size).keepTU (KeepTU.up (alloc_up w3 (.cells #[.slice A3 n1 c3, .slice A4 n2 c4] 26))))
    have lg : w.heap.size + 1 < w3.heap.size := (Z2.out.below hb3 Z2.out.lt).lt
    clear hoc hb3 d4 y0 y1 y2 y3 B2 P2 Z2
    have y0 := (P4.out).cell 0
    have y1 := (P4.out).cell 1
    simp only [List.getElem?_toArray, List.getElem?_cons_zero, List.getElem?_cons_succ] at y0 y1
    have y2 := (P4.out).frozen 0
    have y3 := (P4.out).frozen 1
    have q0 := (Q4.out).cell 0
    have q1 := (Q4.out).cell 1
    simp only [List.getElem?_toArray, List.getElem?_cons_zero, List.getElem?_cons_succ] at q0 q1
    have q2 := (Q4.out).frozen 0
    have q3 := (Q4.out).frozen 1
    have x0 := (Z4.out).cell 0
    have x1 := (Z4.out).cell 1
    simp only [List.getElem?_toArray, List.getElem?_cons_zero, List.getElem?_cons_succ] at x0 x1
    have x2 := (Z4.out).frozen 0
    have x3 := (Z4.out).frozen 1
    go_wp2_with fail
    generalize hg6 : w3.heap.size = g6 at Q4 q0 q1 q2 q3 lg ⊢
    clear hg6
    generalize w3.alloc (.cells #[.slice A3 n1 c3, .slice A4 n2 c4] 26) = w4 at B4 P4 Z4 Q4 OC4 y0 y1 y2 y3 q0 q1 q2 q3 x0 x1 x2 x3 ⊢
    refine (l21Bins_any A1 A2 n1 c1 n2 c2 us w4 (H.out.up B4.out).b ln).mono ?_; rintro e w5 ⟨A5, m5, c5, rfl, hr5, hb5⟩
    have hcall := Lib.hid (l2Where_any A5 m5 c5 (us.map (·.2)) id w5 hr5)
    have B5 := Lib.hid (below_to B4.out hb5)
    have Z5 := Lib.hid (Z4.out.below hb5 Z4.out.lt)
    have Q5 := Lib.hid (Q4.out.below hb5 Q4.out.lt)
    have OC5 := Lib.hid (OC4.out.keepTU (KeepTU.up hb5))
    clear hb5 hr5 y0 y1 y2 y3 q0 q1 q2 q3 x0 x1 x2 x3 B4 P4 Z4 Q4 OC4
    go_wp2_with fail
    refine hcall.out.mono ?_; rintro e w6 ⟨rfl, m6, rfl⟩
    have B6 := Lib.hid (below_drewN B5.out m6)
    have Z6 := Lib.hid (Z5.out.drewN m6)
    have Q6 := Lib.hid (Q5.out.drewN m6)
    have OC6 := Lib.hid (show OwnCR (w5.drewN m6) w.heap.size (.slice A3 n1 c3) (.slice A4 n2 c4) n1 n2 room us from OC5.out.keepTU (fun _ _ => rfl))
    clear hcall B5 Z5 Q5 OC5
    generalize w5.drewN m6 = w6 at B6 Z6 Q6 OC6 ⊢
    have q0 := (Q6.out).cell 0
    have q1 := (Q6.out).cell 1
    simp only [List.getElem?_toArray, List.getElem?_cons_zero, List.getElem?_cons_succ] at q0 q1
    have q2 := (Q6.out).frozen 0
    have q3 := (Q6.out).frozen 1
    rcases whereP_or (us.map (·.2)) id with hw | ⟨k, hw, hkl⟩
    · have Hp := Lib.hid (depP_none Hok.out hw)
      have x0 := (Z6.out).cell 0
      have x1 := (Z6.out).cell 1
      simp only [List.getElem?_toArray, List.getElem?_cons_zero, List.getElem?_cons_succ] at x0 x1
      have x2 := (Z6.out).frozen 0
      have x3 := (Z6.out).frozen 1
      rw [hw]
      go_wp2_with fail
      have KT := (KeepTU.set_ (Z6.out) (by decide) (by decide) (by decide) 0 (.slice A3 n1 c3)).trans (KeepTU.set_ ((Z6.out).set_ 0 (.slice A3 n1 c3)) (by decide) (by decide) (by decide) 1 (.slice A4 n2 c4))
      have EQ := Lib.hid (((Z6.out).set_ 0 (.slice A3 n1 c3)).set_ 1 (.slice A4 n2 c4))
      have B9 := Lib.hid (((B6.out).setCell (p := ⟨w.heap.size + 1, 0, none⟩) (by show w.heap.size ≤ w.heap.size + 1; omega) (.slice A3 n1 c3)).setCell (p := ⟨w.heap.size + 1, 1, none⟩) (by show w.heap.size ≤ w.heap.size + 1; omega) (.slice A4 n2 c4))
      have OC := Lib.hid ((OC6.out).keepTU KT)
      clear KT
      generalize World.setCell (World.setCell w6 ⟨w.heap.size + 1, 0, none⟩ (.slice A3 n1 c3)) ⟨w.heap.size + 1, 1, none⟩ (.slice A4 n2 c4) = w9 at EQ B9 OC ⊢
      have z0 : w9.cell? ⟨w.heap.size + 1, 0, none⟩ = some (.slice A3 n1 c3) := EQ.out.cell 0
      have z1 : w9.cell? ⟨w.heap.size + 1, 1, none⟩ = some (.slice A4 n2 c4) := EQ.out.cell 1
      refine bodyPost_ret (v := .tuple #[.agg #[(.slice A3 n1 c3), (.slice A4 n2 c4)], .int .i64 4]) (by simp [results, Tryz.results85, go_sem, z0, z1]) rfl ⟨A3, n1, c3, A4, n2, c4, by rw [Hp.out], ?_, B9.out⟩
      rw [Hp.out]
      exact OC.out
    · rw [List.length_map, hl.out] at hkl
      have Hp := Lib.hid (depP_yes Hok.out hw)
      rw [hw]
      obtain ⟨hr6, vs, tk, hU, hN⟩ := OC6.out
      obtain ⟨gu, cap, hv, hgu1, hgu2⟩ := hU.form (by omega)
      injection hv with hv1 hv2 hv3
      subst hv1 hv3
      obtain ⟨e1, e2, At, mt, ct, vt, e3, e4, e5⟩ := hN.2.2.1 k hkl
      have hsk := (Hsh.out.2 _ (un_mem (show k < us.length by rw [hl.out]; exact hkl))).1
      have lmt : mt ≤ 1000 := by have := e5.1; omega
      have u1 := hU.cells (g := gu) rfl (k * 2 + 1) _ (by rw [e2, e3])
      rw [addr_add, Nat.zero_add] at u1
      have k1 : (0 : Int) ≤ (k : Int) := by omega
      have k2 : (k : Int) < (n2 : Int) := by omega
      have k3 : 0 ≤ (k : Int) * 2 := by omega
      have hU6 := Lib.hid hU
      have hN6 := Lib.hid hN
      have hr6' := Lib.hid hr6
      have E4 := Lib.hid e4
      have E5 := Lib.hid e5
      have E3 := Lib.hid e3
      have lz6 := B6.out.size
      have GB := Lib.hid (Blk.new w6 50 #[.slice At mt ct])
      have D7 := Lib.hid (alloc_up w6 (.cells #[.slice At mt ct] 50))
      clear hU hN hr6 e1 e2 e3 e4 e5 hsk OC6
      have hcall := Lib.hid (l15Take1_any w6.heap.size w.heap.size At mt ct vt (us[k]?.getD (false, [])).2 id (w6.alloc (.cells #[.slice At mt ct] 50)) GB.out (own_alloc E4.out _) (E5.out.keepTI (KeepTI.up D7.out)) lmt)
      go_wp2_with fail
      refine hcall.out.mono ?_; rintro e w8 ⟨g', c', Ar, mr, cr, vr, xi, Ax, mx, cx, rfl, hc8, lg8, lt8, hr8, hn8, hb8⟩
      -- the box of the task that was taken
      have d9 := below_to (below_to D7.out hb8) (alloc_up w8 (.cells #[.int .i64 xi, .slice Ax mx cx] 33))
      have B9 := Lib.hid (below_to B6.out d9)
      have Z9 := Lib.hid (Z6.out.below d9 Z6.out.lt)
      have Q9 := Lib.hid (Q6.out.below d9 Q6.out.lt)
      have U9 := Lib.hid (own_up' hU6.out d9)
      have N9 := Lib.hid (hN6.out.keepTI (KeepTI.up d9))
      have M9 := Lib.hid (own_up' hr6'.out d9)
      have lz7 : w6.heap.size + 1 ≤ w8.heap.size := by have := hb8.size; rw [World.size_alloc] at this; exact this
      have R9 := Lib.hid (own_alloc hr8 (.cells #[.int .i64 xi, .slice Ax mx cx] 33))
      have V9 := Lib.hid (hn8.keepTI (KeepTI.up (alloc_up w8 (.cells #[.int .i64 xi, .slice Ax mx cx] 33))))
      have hc9 : (w8.alloc (.cells #[.int .i64 xi, .slice Ax mx cx] 33)).cell? ⟨g', 0, none⟩ = some (.slice Ar mr cr) := ((alloc_up w8 _).cell (p := ⟨g', 0, none⟩) lt8).trans hc8
      have lg8' : w6.heap.size + 1 ≤ g' := by rw [World.size_alloc] at lg8; exact lg8
      have lgu : gu < w6.heap.size := hgu2
      have ltn : (takeP (us[k]?.getD (false, [])).2 id).length = mr := hn8.1
      clear d9 hr8 hn8 hb8 hc8 lg8 hcall GB D7 u1 q0 q1 q2 q3 E3
      go_wp2_with fail
      generalize w8.alloc (.cells #[.int .i64 xi, .slice Ax mx cx] 33) = wa at B9 Z9 Q9 U9 N9 M9 R9 V9 hc9 ⊢
      have Ba := Lib.hid B9.out.drew
      have Za := Lib.hid Z9.out.drew
      have Qa := Lib.hid Q9.out.drew
      have Ua := Lib.hid (World.ownsRow.drew U9.out)
      have Na := Lib.hid (N9.out.keepTI (KeepTI.drew wa))
      have Ma := Lib.hid (World.ownsRow.drew M9.out)
      have Ra := Lib.hid (World.ownsRow.drew R9.out)
      have Va := Lib.hid (V9.out.keepTI (KeepTI.drew wa))
      have K0 : wa.drew.cell? ⟨g6, 1, none⟩ = some (.slice (some ⟨gu, 0, none⟩) n2 c4) ∧ wa.drew.cell? ⟨g', 0, none⟩ = some (.slice Ar mr cr) := ⟨Qa.out.cell 1, hc9⟩
      clear B9 Z9 Q9 U9 N9 M9 R9 V9 hc9
      refine wp_region_mix (.take 0 (.take 1 (.take 2 (.take 3 (.take 4 (.take 5 (.take 6 (.take 7 (.bar 8 .nil))))))))) (fun w' => w'.cell? ⟨g6, 1, none⟩ = some (.slice (some ⟨gu, 0, none⟩) n2 c4) ∧ w'.cell? ⟨g', 0, none⟩ = some (.slice Ar mr cr)) (by kernel_rfl) (by kernel_rfl) K0 (fun _ => ?_)
      repeat (first | (refine wpMix_skip (by rfl) (by rfl) ?_; (try simp only [Act.put, List.setIfInBounds_toArray, List.set_cons_zero, List.set_cons_succ])) | (refine wpMix_take (v := ?_) (by rfl) (by rfl) (fun wS hSt => ?_) ?_; rotate_left; (focus ((try dsimp only at hSt); (go_simp <;> with_reducible rfl); done)); (try simp only [Act.put, List.setIfInBounds_toArray, List.set_cons_zero, List.set_cons_succ])))
      generalize wa.drew = u0 at K0 Ba Za Qa Ua Na Ma Ra Va ⊢
      obtain ⟨e1, e2, A', m', c'', vt', e3, e4, _⟩ := Na.out.2.2.1 k hkl
      have u1 := Ua.out.cells (g := gu) rfl (k * 2 + 1) _ e2
      rw [addr_add, Nat.zero_add] at u1
      have f1 := Ua.out.frozenAt (k * 2 + 1)
      clear e1 e2 e3 e4
      (refine wpMix_bar (by rfl) (fun K hK => ?_); go_simp)
      obtain ⟨_, curU, eU, _, hbU⟩ := own_row Ua.out (by omega)
      injection eU with eU
      injection eU with eU
      subst eU
      have KT := Lib.hid (KeepTI.set_ hbU (by decide) (by decide) (k * 2 + 1) (.slice Ar mr cr))
      have Bb := Lib.hid (Ba.out.setCell (p := ⟨gu, k * 2 + 1, none⟩) (by show w.heap.size ≤ gu; omega) (.slice Ar mr cr))
      have Zb := Lib.hid (Za.out.far (p := ⟨gu, k * 2 + 1, none⟩) (fun e => own_blk_ne Ua.out Za.out (by decide) (by rw [e]; rfl)) (.slice Ar mr cr))
      have Qb := Lib.hid (Qa.out.far (p := ⟨gu, k * 2 + 1, none⟩) (fun e => own_blk_ne Ua.out Qa.out (by decide) (by rw [e]; rfl)) (.slice Ar mr cr))
      have Ub := Lib.hid (own_set Ua.out (k * 2 + 1) (.slice Ar mr cr))
      have hput := (Na.out.keepTI KT.out).put hkl (own_lo (own_keepTI Ra.out (.inr rfl) KT.out) (by rw [World.size_alloc]; omega)) (Va.out.keepTI KT.out) (fun i hi hij b hb1 hb2 => by
        obtain ⟨_, _, Ai, mi, ci, vi, e3, e4, _⟩ := hN6.out.2.2.1 i hi
        rw [e3] at hb1
        have := (e4.lt b hb1).2
        have := (Ra.out.lt b hb2).1
        rw [World.size_alloc] at this
        omega)
      have OCb := Lib.hid (show OwnCR (u0.setCell ⟨gu, k * 2 + 1, none⟩ (.slice Ar mr cr)) w.heap.size (.slice A3 n1 c3) (.slice (some ⟨gu, 0, none⟩) n2 c4) n1 n2 room (us.set k ((us[k]?.getD (false, [])).1, takeP (us[k]?.getD (false, [])).2 id)) from ⟨own_keepTI Ma.out (.inl rfl) KT.out, _, _, Ub.out, hput⟩)
      have K1 : (u0.setCell ⟨gu, k * 2 + 1, none⟩ (.slice Ar mr cr)).cell? ⟨g', 0, none⟩ = some (.slice Ar mr cr) := (World.cell?_of_block (Below.heap_setCell u0 _ _ g' (by show g' ≠ gu; omega))).trans K0.2
      clear hput u1 f1 hbU KT Ub K0
      ((try dsimp only); refine hK.out _ _ (⟨Qb.out.cell 1, K1⟩) (fun hSw => ?_); (try clear hSw); clear hK K; (try simp only [Act.put, List.setIfInBounds_toArray, List.set_cons_zero, List.set_cons_succ]))
      clear K1
      generalize u0.setCell ⟨gu, k * 2 + 1, none⟩ (.slice Ar mr cr) = wb at Bb Zb Qb OCb ⊢
      refine wpMix_nil ?_
      have q0 := (Qb.out).cell 0
      have q1 := (Qb.out).cell 1
      simp only [List.getElem?_toArray, List.getElem?_cons_zero, List.getElem?_cons_succ] at q0 q1
      have q2 := (Qb.out).frozen 0
      have q3 := (Qb.out).frozen 1
      have x0 := (Zb.out).cell 0
      have x1 := (Zb.out).cell 1
      simp only [List.getElem?_toArray, List.getElem?_cons_zero, List.getElem?_cons_succ] at x0 x1
      have x2 := (Zb.out).frozen 0
      have x3 := (Zb.out).frozen 1
      go_wp2_with fail
      have KT := (KeepTU.set_ (Zb.out) (by decide) (by decide) (by decide) 0 (.slice A3 n1 c3)).trans (KeepTU.set_ ((Zb.out).set_ 0 (.slice A3 n1 c3)) (by decide) (by decide) (by decide) 1 (.slice (some ⟨gu, 0, none⟩) n2 c4))
      have EQ := Lib.hid (((Zb.out).set_ 0 (.slice A3 n1 c3)).set_ 1 (.slice (some ⟨gu, 0, none⟩) n2 c4))
      have B9 := Lib.hid (((Bb.out).setCell (p := ⟨w.heap.size + 1, 0, none⟩) (by show w.heap.size ≤ w.heap.size + 1; omega) (.slice A3 n1 c3)).setCell (p := ⟨w.heap.size + 1, 1, none⟩) (by show w.heap.size ≤ w.heap.size + 1; omega) (.slice (some ⟨gu, 0, none⟩) n2 c4))
      have OC := Lib.hid ((OCb.out).keepTU KT)
      clear KT
      generalize World.setCell (World.setCell wb ⟨w.heap.size + 1, 0, none⟩ (.slice A3 n1 c3)) ⟨w.heap.size + 1, 1, none⟩ (.slice (some ⟨gu, 0, none⟩) n2 c4) = w9 at EQ B9 OC ⊢
      have z0 : w9.cell? ⟨w.heap.size + 1, 0, none⟩ = some (.slice A3 n1 c3) := EQ.out.cell 0
      have z1 : w9.cell? ⟨w.heap.size + 1, 1, none⟩ = some (.slice (some ⟨gu, 0, none⟩) n2 c4) := EQ.out.cell 1
      refine bodyPost_ret (v := .tuple #[.agg #[(.slice A3 n1 c3), (.slice (some ⟨gu, 0, none⟩) n2 c4)], .int .i64 0]) (by simp [results, Tryz.results85, go_sem, z0, z1]) rfl ⟨A3, n1, c3, some ⟨gu, 0, none⟩, n2, c4, by rw [Hp.out], ?_, B9.out⟩
      rw [Hp.out]
      exact OC.out
end Go.Proofs.YtlegpecjoaklnaaGreatDoor
