/- Walk: the reference's ClusterOpen. -/
import Derived.Test.YtlegpecjoaklnaaGreatDoorClDepart
namespace Go.Proofs.YtlegpecjoaklnaaGreatDoor
open Go Go.RowKit
attribute [local go_sem ↓] Go.wp_at_zero Go.wp_at_succ

/-- ClusterOpen: room, units, code. -/
def opnP (room : List Int) (us : List Un) (node : Int) (op : Bool) : List Int × List Un × Int :=
  if clOk room us = true then (if inR 0 ((us.length : Int) - 1) node = true then (if (us[node.toNat]?.getD (false, [])).1 = op then (room, us, 2) else if 0 < (us[node.toNat]?.getD (false, [])).2.length then (room, us, 5) else (room, us.set node.toNat (op, (us[node.toNat]?.getD (false, [])).2), 0)) else (room, us, 4)) else ([], [], 1)
theorem opnP_bad {room : List Int} {us : List Un} {node : Int} {op : Bool} (h : clOk room us = false) : opnP room us node op = ([], [], 1) := by unfold opnP; rw [if_neg (by rw [h]; simp)]
theorem opnP_none {room : List Int} {us : List Un} {node : Int} {op : Bool} (h : clOk room us = true) (hn : inR 0 ((us.length : Int) - 1) node = false) : opnP room us node op = (room, us, 4) := by unfold opnP; rw [if_pos h, if_neg (by rw [hn]; simp)]
theorem opnP_twice {room : List Int} {us : List Un} {k : Nat} {op : Bool} (h : clOk room us = true) (hn : inR 0 ((us.length : Int) - 1) (k : Int) = true) (ho : (us[k]?.getD (false, [])).1 = op) : opnP room us k op = (room, us, 2) := by unfold opnP; rw [if_pos h, if_pos hn, Int.toNat_natCast, if_pos ho]
theorem opnP_busy {room : List Int} {us : List Un} {k : Nat} {op : Bool} (h : clOk room us = true) (hn : inR 0 ((us.length : Int) - 1) (k : Int) = true) (ho : (us[k]?.getD (false, [])).1 ≠ op) (hb : 0 < (us[k]?.getD (false, [])).2.length) : opnP room us k op = (room, us, 5) := by unfold opnP; rw [if_pos h, if_pos hn, Int.toNat_natCast, if_neg ho, if_pos hb]
theorem opnP_yes {room : List Int} {us : List Un} {k : Nat} {op : Bool} (h : clOk room us = true) (hn : inR 0 ((us.length : Int) - 1) (k : Int) = true) (ho : (us[k]?.getD (false, [])).1 ≠ op) (hb : ¬ 0 < (us[k]?.getD (false, [])).2.length) : opnP room us k op = (room, us.set k (op, (us[k]?.getD (false, [])).2), 0) := by unfold opnP; rw [if_pos h, if_pos hn, Int.toNat_natCast, if_neg ho, if_neg hb]

set_option maxRecDepth 100000 in
set_option maxHeartbeats 3200000 in
theorem clusterOpen_any (A1 A2 : Option Addr) (n1 c1 n2 c2 : Nat) (room : List Int) (us : List Un) (node : Int) (op : Bool) (w : World) (h : RdC w A1 A2 n1 n2 room us) (hs : ShU us) (hn1 : n1 ≤ 1048576) :
    Calls Tryz.prog 86 #[.agg #[.slice A1 n1 c1, .slice A2 n2 c2], .int .i64 node, .bool op] w fun e w' => ∃ A3 m3 c3 A4 m4 c4, e = .returned (.tuple #[.agg #[.slice A3 m3 c3, .slice A4 m4 c4], .int .i64 (opnP room us node op).2.2]) ∧ OwnCR w' w.heap.size (.slice A3 m3 c3) (.slice A4 m4 c4) m3 m4 (opnP room us node op).1 (opnP room us node op).2.1 ∧ Below w.heap.size w w' := by
  have hl := Lib.hid h.b.len
  have H := Lib.hid h
  have Hsh := Lib.hid hs
  have ln : n2 ≤ 1000 := by have := h.b.len; have := hs.1; omega
  clear h hs
  have sz : (w.alloc (.cells #[.slice A1 n1 c1, .slice A2 n2 c2] 26)).heap.size = w.heap.size + 1 := World.size_alloc _ _
  have B1 := Lib.hid ((alloc_up w (.cells #[.slice A1 n1 c1, .slice A2 n2 c2] 26)).alloc (by rw [sz]; omega) (.cells #[.slice none 0 0, .slice none 0 0] 26))
  have P1 := Lib.hid ((Blk.new w 26 #[.slice A1 n1 c1, .slice A2 n2 c2]).alloc (.cells #[.slice none 0 0, .slice none 0 0] 26))
  have hZ := Blk.new (w.alloc (.cells #[.slice A1 n1 c1, .slice A2 n2 c2] 26)) 26 #[.slice none 0 0, .slice none 0 0]
  rw [sz] at hZ
  have Z1 := Lib.hid hZ
  clear hZ sz
  have y0 := (P1.out).cell 0
  have y1 := (P1.out).cell 1
  simp only [List.getElem?_toArray, List.getElem?_cons_zero, List.getElem?_cons_succ] at y0 y1
  have y2 := (P1.out).frozen 0
  have y3 := (P1.out).frozen 1
  go_enter Tryz.func86, Tryz.ntmps86
  go_wp2_with fail
  generalize (w.alloc (.cells #[.slice A1 n1 c1, .slice A2 n2 c2] 26)).alloc (.cells #[.slice none 0 0, .slice none 0 0] 26) = w1 at B1 P1 Z1 y0 y1 y2 y3 ⊢
  refine (clusterValidS_any A1 A2 n1 c1 n2 c2 room us w1 (H.out.up B1.out) Hsh.out).mono ?_; rintro e w2 ⟨rfl, hb2⟩
  have B2 := Lib.hid (below_to B1.out hb2)
  have P2 := Lib.hid (P1.out.below hb2 P1.out.lt)
  have Z2 := Lib.hid (Z1.out.below hb2 Z1.out.lt)
  clear hb2 y0 y1 y2 y3 B1 P1 Z1
  have y0 := (P2.out).cell 0
  have y1 := (P2.out).cell 1
  simp only [List.getElem?_toArray, List.getElem?_cons_zero, List.getElem?_cons_succ] at y0 y1
  have y2 := (P2.out).frozen 0
  have y3 := (P2.out).frozen 1
  cases hok : clOk room us with
  | false =>
    have Hp := Lib.hid (opnP_bad (node := node) (op := op) hok)
    have x0 := (Z2.out).cell 0
    have x1 := (Z2.out).cell 1
    simp only [List.getElem?_toArray, List.getElem?_cons_zero, List.getElem?_cons_succ] at x0 x1
    have x2 := (Z2.out).frozen 0
    have x3 := (Z2.out).frozen 1
    go_wp2_with fail
    have KT := (KeepTU.set_ (Z2.out) (by decide) (by decide) (by decide) 0 (.slice none 0 0)).trans (KeepTU.set_ ((Z2.out).set_ 0 (.slice none 0 0)) (by decide) (by decide) (by decide) 1 (.slice none 0 0))
    have EQ := Lib.hid (((Z2.out).set_ 0 (.slice none 0 0)).set_ 1 (.slice none 0 0))
    have B9 := Lib.hid (((B2.out).setCell (p := ⟨w.heap.size + 1, 0, none⟩) (by show w.heap.size ≤ w.heap.size + 1; omega) (.slice none 0 0)).setCell (p := ⟨w.heap.size + 1, 1, none⟩) (by show w.heap.size ≤ w.heap.size + 1; omega) (.slice none 0 0))
    have OC := Lib.hid (((OwnCR.none : OwnCR w2 w.heap.size (.slice none 0 0) (.slice none 0 0) 0 0 [] [])).keepTU KT)
    clear KT
    generalize World.setCell (World.setCell w2 ⟨w.heap.size + 1, 0, none⟩ (.slice none 0 0)) ⟨w.heap.size + 1, 1, none⟩ (.slice none 0 0) = w9 at EQ B9 OC ⊢
    have z0 : w9.cell? ⟨w.heap.size + 1, 0, none⟩ = some (.slice none 0 0) := EQ.out.cell 0
    have z1 : w9.cell? ⟨w.heap.size + 1, 1, none⟩ = some (.slice none 0 0) := EQ.out.cell 1
    refine bodyPost_ret (v := .tuple #[.agg #[(.slice none 0 0), (.slice none 0 0)], .int .i64 1]) (by simp [results, Tryz.results86, go_sem, z0, z1]) rfl ⟨none, 0, 0, none, 0, 0, by rw [Hp.out], ?_, B9.out⟩
    rw [Hp.out]
    exact OC.out
  | true =>
    have Hok := Lib.hid hok
    clear hok
    go_wp2_with fail
    refine (l21Copy_any A1 A2 n1 c1 n2 c2 room us w2 (H.out.up B2.out) Hsh.out hn1).mono ?_; rintro e w3 ⟨A3, c3, A4, c4, rfl, hoc, hb3⟩
    have d4 := below_to hb3 (alloc_up w3 (.cells #[.slice A3 n1 c3, .slice A4 n2 c4] 26))
    have B4 := Lib.hid (below_to B2.out d4)
    have P4 := Lib.hid (P2.out.below d4 P2.out.lt)
    have Z4 := Lib.hid (Z2.out.below d4 Z2.out.lt)
    have Q4 := Lib.hid (Blk.new w3 26 #[.slice A3 n1 c3, .slice A4 n2 c4])
    have OC4 := Lib.hid (((OwnCR.of hoc).low B2.out.size).keepTU (KeepTU.up (alloc_up w3 (.cells #[.slice A3 n1 c3, .slice A4 n2 c4] 26))))
    have lg : w.heap.size + 1 < w3.heap.size := (Z2.out.below hb3 Z2.out.lt).lt
    clear hoc hb3 d4 y0 y1 y2 y3 B2 P2 Z2
    have y0 := (P4.out).cell 0
    have y1 := (P4.out).cell 1
    simp only [List.getElem?_toArray, List.getElem?_cons_zero, List.getElem?_cons_succ] at y0 y1
    have y2 := (P4.out).frozen 0
    have y3 := (P4.out).frozen 1
    have q0 := (Q4.out).cell 0
    have q1 := (Q4.out).cell 1
    simp only [List.getElem?_toArray, List.getElem?_cons_zero, List.getElem?_cons_succ] at q0 q1
    have q2 := (Q4.out).frozen 0
    have q3 := (Q4.out).frozen 1
    have x0 := (Z4.out).cell 0
    have x1 := (Z4.out).cell 1
    simp only [List.getElem?_toArray, List.getElem?_cons_zero, List.getElem?_cons_succ] at x0 x1
    have x2 := (Z4.out).frozen 0
    have x3 := (Z4.out).frozen 1
    have lb := clOk_facts Hok.out
    have ln1 : 1 ≤ n2 := by have := lb.2.1; have := hl.out; omega
    have v1 : IntKind.i64.wrap ((n2 : Int) - 1) = (n2 : Int) - 1 := wr64 (by omega) (by omega)
    have R4 := Lib.hid ((H.out.up B4.out).b)
    clear lb
    go_wp2_with fail
    generalize hg6 : w3.heap.size = g6 at Q4 q0 q1 q2 q3 lg ⊢
    clear hg6
    generalize w3.alloc (.cells #[.slice A3 n1 c3, .slice A4 n2 c4] 26) = w4 at B4 P4 Z4 Q4 OC4 R4 y0 y1 y2 y3 q0 q1 q2 q3 x0 x1 x2 x3 ⊢
    cases hin : inR 0 ((n2 : Int) - 1) node with
    | false =>
      have Hp := Lib.hid (opnP_none (op := op) Hok.out (by rw [hl.out]; exact hin))
      refine (l6In_any _ _ _ _).mono ?_; rintro e w5 ⟨rfl, rfl⟩; rw [hin]
      go_wp2_with fail
      have KT := (KeepTU.set_ (Z4.out) (by decide) (by decide) (by decide) 0 (.slice A3 n1 c3)).trans (KeepTU.set_ ((Z4.out).set_ 0 (.slice A3 n1 c3)) (by decide) (by decide) (by decide) 1 (.slice A4 n2 c4))
      have EQ := Lib.hid (((Z4.out).set_ 0 (.slice A3 n1 c3)).set_ 1 (.slice A4 n2 c4))
      have B9 := Lib.hid (((B4.out).setCell (p := ⟨w.heap.size + 1, 0, none⟩) (by show w.heap.size ≤ w.heap.size + 1; omega) (.slice A3 n1 c3)).setCell (p := ⟨w.heap.size + 1, 1, none⟩) (by show w.heap.size ≤ w.heap.size + 1; omega) (.slice A4 n2 c4))
      have OC := Lib.hid ((OC4.out).keepTU KT)
      clear KT
      generalize World.setCell (World.setCell w4 ⟨w.heap.size + 1, 0, none⟩ (.slice A3 n1 c3)) ⟨w.heap.size + 1, 1, none⟩ (.slice A4 n2 c4) = w9 at EQ B9 OC ⊢
      have z0 : w9.cell? ⟨w.heap.size + 1, 0, none⟩ = some (.slice A3 n1 c3) := EQ.out.cell 0
      have z1 : w9.cell? ⟨w.heap.size + 1, 1, none⟩ = some (.slice A4 n2 c4) := EQ.out.cell 1
      (try simp only [Exit.inBlock, Exit.then]); change bodyPost Tryz.prog Tryz.f86 _ _ _ _; refine bodyPost_ret (v := .tuple #[.agg #[(.slice A3 n1 c3), (.slice A4 n2 c4)], .int .i64 4]) (by simp [results, Tryz.results86, go_sem, z0, z1]) rfl ⟨A3, n1, c3, A4, n2, c4, by rw [Hp.out], ?_, B9.out⟩
      rw [Hp.out]
      exact OC.out
    | true =>
      obtain ⟨i1, i2⟩ := inR_iff.1 hin
      obtain ⟨k, rfl⟩ := Int.eq_ofNat_of_zero_le i1
      have hkl : k < n2 := by omega
      have Hin := Lib.hid (show inR 0 ((us.length : Int) - 1) (k : Int) = true by rw [hl.out]; exact hin)
      have k1 : (0 : Int) ≤ (k : Int) := by omega
      have k2 : (k : Int) < (n2 : Int) := by omega
      have k3 : 0 ≤ (k : Int) * 2 := by omega
      obtain ⟨b, o, A', m', c', rfl, lb, hc1, hc2, hmc, hrd⟩ := R4.out.at_ hkl
      have Hml := Lib.hid hrd.len
      clear hrd
      cases hop : ((us[k]?.getD (false, [])).1 == op) with
      | true =>
        have Hp := Lib.hid (opnP_twice Hok.out Hin.out (by simpa using hop))
        refine (l6In_any _ _ _ _).mono ?_; rintro e w5 ⟨rfl, rfl⟩; rw [hin]
        go_wp2_with fail
        have KT := (KeepTU.set_ (Z4.out) (by decide) (by decide) (by decide) 0 (.slice A3 n1 c3)).trans (KeepTU.set_ ((Z4.out).set_ 0 (.slice A3 n1 c3)) (by decide) (by decide) (by decide) 1 (.slice A4 n2 c4))
        have EQ := Lib.hid (((Z4.out).set_ 0 (.slice A3 n1 c3)).set_ 1 (.slice A4 n2 c4))
        have B9 := Lib.hid (((B4.out).setCell (p := ⟨w.heap.size + 1, 0, none⟩) (by show w.heap.size ≤ w.heap.size + 1; omega) (.slice A3 n1 c3)).setCell (p := ⟨w.heap.size + 1, 1, none⟩) (by show w.heap.size ≤ w.heap.size + 1; omega) (.slice A4 n2 c4))
        have OC := Lib.hid ((OC4.out).keepTU KT)
        clear KT
        generalize World.setCell (World.setCell w4 ⟨w.heap.size + 1, 0, none⟩ (.slice A3 n1 c3)) ⟨w.heap.size + 1, 1, none⟩ (.slice A4 n2 c4) = w9 at EQ B9 OC ⊢
        have z0 : w9.cell? ⟨w.heap.size + 1, 0, none⟩ = some (.slice A3 n1 c3) := EQ.out.cell 0
        have z1 : w9.cell? ⟨w.heap.size + 1, 1, none⟩ = some (.slice A4 n2 c4) := EQ.out.cell 1
        (try simp only [Exit.inBlock, Exit.then]); change bodyPost Tryz.prog Tryz.f86 _ _ _ _; refine bodyPost_ret (v := .tuple #[.agg #[(.slice A3 n1 c3), (.slice A4 n2 c4)], .int .i64 2]) (by simp [results, Tryz.results86, go_sem, z0, z1]) rfl ⟨A3, n1, c3, A4, n2, c4, by rw [Hp.out], ?_, B9.out⟩
        rw [Hp.out]
        exact OC.out
      | false =>
        have hop' : (us[k]?.getD (false, [])).1 ≠ op := by simpa using hop
        by_cases hb : 0 < m'
        · have Hp := Lib.hid (opnP_busy Hok.out Hin.out hop' (by rw [Hml.out]; exact hb))
          clear hop'
          refine (l6In_any _ _ _ _).mono ?_; rintro e w5 ⟨rfl, rfl⟩; rw [hin]
          go_wp2_with fail
          have KT := (KeepTU.set_ (Z4.out) (by decide) (by decide) (by decide) 0 (.slice A3 n1 c3)).trans (KeepTU.set_ ((Z4.out).set_ 0 (.slice A3 n1 c3)) (by decide) (by decide) (by decide) 1 (.slice A4 n2 c4))
          have EQ := Lib.hid (((Z4.out).set_ 0 (.slice A3 n1 c3)).set_ 1 (.slice A4 n2 c4))
          have B9 := Lib.hid (((B4.out).setCell (p := ⟨w.heap.size + 1, 0, none⟩) (by show w.heap.size ≤ w.heap.size + 1; omega) (.slice A3 n1 c3)).setCell (p := ⟨w.heap.size + 1, 1, none⟩) (by show w.heap.size ≤ w.heap.size + 1; omega) (.slice A4 n2 c4))
          have OC := Lib.hid ((OC4.out).keepTU KT)
          clear KT
          generalize World.setCell (World.setCell w4 ⟨w.heap.size + 1, 0, none⟩ (.slice A3 n1 c3)) ⟨w.heap.size + 1, 1, none⟩ (.slice A4 n2 c4) = w9 at EQ B9 OC ⊢
          have z0 : w9.cell? ⟨w.heap.size + 1, 0, none⟩ = some (.slice A3 n1 c3) := EQ.out.cell 0
          have z1 : w9.cell? ⟨w.heap.size + 1, 1, none⟩ = some (.slice A4 n2 c4) := EQ.out.cell 1
          (try simp only [Exit.inBlock, Exit.then]); change bodyPost Tryz.prog Tryz.f86 _ _ _ _; refine bodyPost_ret (v := .tuple #[.agg #[(.slice A3 n1 c3), (.slice A4 n2 c4)], .int .i64 5]) (by simp [results, Tryz.results86, go_sem, z0, z1]) rfl ⟨A3, n1, c3, A4, n2, c4, by rw [Hp.out], ?_, B9.out⟩
          rw [Hp.out]
          exact OC.out
        · have Hp := Lib.hid (opnP_yes Hok.out Hin.out hop' (by rw [Hml.out]; exact hb))
          clear hop'
          obtain ⟨hr6, vs, tk, hU, hN⟩ := OC4.out
          obtain ⟨gu, cap, hv, hgu1, hgu2⟩ := hU.form (by omega)
          injection hv with hv1 hv2 hv3
          subst hv1 hv3
          obtain ⟨e1, _⟩ := hN.2.2.1 k hkl
          have u1 := hU.cells (g := gu) rfl (k * 2) _ e1
          rw [addr_add, Nat.zero_add] at u1
          have f1 := hU.frozenAt (k * 2)
          obtain ⟨_, curU, eU, _, hbU⟩ := own_row hU (by omega)
          injection eU with eU
          injection eU with eU
          subst eU
          have KT := KeepTI.set_ hbU (by decide) (by decide) (k * 2) (.bool op)
          have B5 := Lib.hid (B4.out.setCell (p := ⟨gu, k * 2, none⟩) (by show w.heap.size ≤ gu; omega) (.bool op))
          have Z5 := Lib.hid (Z4.out.far (p := ⟨gu, k * 2, none⟩) (fun e => own_blk_ne hU Z4.out (by decide) (by rw [e]; rfl)) (.bool op))
          have Q5 := Lib.hid (Q4.out.far (p := ⟨gu, k * 2, none⟩) (fun e => own_blk_ne hU Q4.out (by decide) (by rw [e]; rfl)) (.bool op))
          have OC5 := Lib.hid (show OwnCR (w4.setCell ⟨gu, k * 2, none⟩ (.bool op)) w.heap.size (.slice A3 n1 c3) (.slice (some ⟨gu, 0, none⟩) n2 c4) n1 n2 room (us.set k (op, (us[k]?.getD (false, [])).2)) from ⟨own_keepTI hr6 (.inl rfl) KT, _, _, own_set hU (k * 2) (.bool op), (hN.keepTI KT).open_ hkl⟩)
          clear hU hN hr6 e1 OC4 KT hbU
          have q4 := (Q5.out).cell 0
          have q5 := (Q5.out).cell 1
          simp only [List.getElem?_toArray, List.getElem?_cons_zero, List.getElem?_cons_succ] at q4 q5
          have q6 := (Q5.out).frozen 0
          have q7 := (Q5.out).frozen 1
          have x4 := (Z5.out).cell 0
          have x5 := (Z5.out).cell 1
          simp only [List.getElem?_toArray, List.getElem?_cons_zero, List.getElem?_cons_succ] at x4 x5
          have x6 := (Z5.out).frozen 0
          have x7 := (Z5.out).frozen 1
          refine (l6In_any _ _ _ _).mono ?_; rintro e w5 ⟨rfl, rfl⟩; rw [hin]
          go_wp2_with fail
          have KT := (KeepTU.set_ (Z5.out) (by decide) (by decide) (by decide) 0 (.slice A3 n1 c3)).trans (KeepTU.set_ ((Z5.out).set_ 0 (.slice A3 n1 c3)) (by decide) (by decide) (by decide) 1 (.slice (some ⟨gu, 0, none⟩) n2 c4))
          have EQ := Lib.hid (((Z5.out).set_ 0 (.slice A3 n1 c3)).set_ 1 (.slice (some ⟨gu, 0, none⟩) n2 c4))
          have B9 := Lib.hid (((B5.out).setCell (p := ⟨w.heap.size + 1, 0, none⟩) (by show w.heap.size ≤ w.heap.size + 1; omega) (.slice A3 n1 c3)).setCell (p := ⟨w.heap.size + 1, 1, none⟩) (by show w.heap.size ≤ w.heap.size + 1; omega) (.slice (some ⟨gu, 0, none⟩) n2 c4))
          have OC := Lib.hid ((OC5.out).keepTU KT)
          clear KT
          generalize World.setCell (World.setCell (w4.setCell ⟨gu, k * 2, none⟩ (.bool op)) ⟨w.heap.size + 1, 0, none⟩ (.slice A3 n1 c3)) ⟨w.heap.size + 1, 1, none⟩ (.slice (some ⟨gu, 0, none⟩) n2 c4) = w9 at EQ B9 OC ⊢
          have z0 : w9.cell? ⟨w.heap.size + 1, 0, none⟩ = some (.slice A3 n1 c3) := EQ.out.cell 0
          have z1 : w9.cell? ⟨w.heap.size + 1, 1, none⟩ = some (.slice (some ⟨gu, 0, none⟩) n2 c4) := EQ.out.cell 1
          (try simp only [Exit.inBlock, Exit.then]); change bodyPost Tryz.prog Tryz.f86 _ _ _ _; refine bodyPost_ret (v := .tuple #[.agg #[(.slice A3 n1 c3), (.slice (some ⟨gu, 0, none⟩) n2 c4)], .int .i64 0]) (by simp [results, Tryz.results86, go_sem, z0, z1]) rfl ⟨A3, n1, c3, some ⟨gu, 0, none⟩, n2, c4, by rw [Hp.out], ?_, B9.out⟩
          rw [Hp.out]
          exact OC.out
end Go.Proofs.YtlegpecjoaklnaaGreatDoor
