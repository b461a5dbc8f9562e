/- Several texts in one. -/
import Derived.Test.YtlcgbnmmbheleaaGreatV25
namespace Go.Proofs.YtlcgbnmmbheleaaGreat
open Go Go.RowKit
attribute [local go_sem ↓] Go.wp_at_zero Go.wp_at_succ

def opnP (room : List Int) (us : List Un) (node : Int) (op : Bool) : List Int × List Un × Int :=
  if clOk room us = true then (if inR 0 ((us.length : Int) - 1) node = true then (if (us[node.toNat]?.getD (false, [])).1 = op then (room, us, 2) else if 0 < (us[node.toNat]?.getD (false, [])).2.length then (room, us, 5) else (room, us.set node.toNat (op, (us[node.toNat]?.getD (false, [])).2), 0)) else (room, us, 4)) else ([], [], 1)
theorem opnP_bad {room : List Int} {us : List Un} {node : Int} {op : Bool} (h : clOk room us = false) : opnP room us node op = ([], [], 1) := by unfold opnP; rw [if_neg (by rw [h]; simp)]
theorem opnP_none {room : List Int} {us : List Un} {node : Int} {op : Bool} (h : clOk room us = true) (hn : inR 0 ((us.length : Int) - 1) node = false) : opnP room us node op = (room, us, 4) := by unfold opnP; rw [if_pos h, if_neg (by rw [hn]; simp)]
theorem opnP_twice {room : List Int} {us : List Un} {k : Nat} {op : Bool} (h : clOk room us = true) (hn : inR 0 ((us.length : Int) - 1) (k : Int) = true) (ho : (us[k]?.getD (false, [])).1 = op) : opnP room us k op = (room, us, 2) := by unfold opnP; rw [if_pos h, if_pos hn, Int.toNat_natCast, if_pos ho]
theorem opnP_busy {room : List Int} {us : List Un} {k : Nat} {op : Bool} (h : clOk room us = true) (hn : inR 0 ((us.length : Int) - 1) (k : Int) = true) (ho : (us[k]?.getD (false, [])).1 ≠ op) (hb : 0 < (us[k]?.getD (false, [])).2.length) : opnP room us k op = (room, us, 5) := by unfold opnP; rw [if_pos h, if_pos hn, Int.toNat_natCast, if_neg ho, if_pos hb]
theorem opnP_yes {room : List Int} {us : List Un} {k : Nat} {op : Bool} (h : clOk room us = true) (hn : inR 0 ((us.length : Int) - 1) (k : Int) = true) (ho : (us[k]?.getD (false, [])).1 ≠ op) (hb : ¬ 0 < (us[k]?.getD (false, [])).2.length) : opnP room us k op = (room, us.set k (op, (us[k]?.getD (false, [])).2), 0) := by unfold opnP; rw [if_pos h, if_pos hn, Int.toNat_natCast, if_neg ho, if_neg hb]

set_option maxRecDepth 100000 in
set_option maxHeartbeats 3200000 in
theorem clusterOpen_any (A1 A2 : Option Addr) (n1 c1 n2 c2 : Nat) (room : List Int) (us : List Un) (node : Int) (op : Bool) (w : World) (h : RdC w A1 A2 n1 n2 room us) (hs : ShU us) (hn1 : n1 ≤ 1048576) :
    Calls Tryz.prog 39 #[.agg #[.slice A1 n1 c1, .slice A2 n2 c2], .int .i64 node, .bool op] w fun e w' => ∃ A3 m3 c3 A4 m4 c4, e = .returned (.tuple #[.agg #[.slice A3 m3 c3, .slice A4 m4 c4], .int .i64 (opnP room us node op).2.2]) ∧ OwnCR w' w.heap.size (.slice A3 m3 c3) (.slice A4 m4 c4) m3 m4 (opnP room us node op).1 (opnP room us node op).2.1 ∧ Below w.heap.size w w' := by
  have hl := qh h.b.len
  have H := qh h
  have Hsh := qh hs
  have ln : n2 ≤ 1000 := by have := h.b.len; have := hs.1; omega
  clear h hs
  have sz : (w.alloc (.cells #[.slice A1 n1 c1, .slice A2 n2 c2] 26)).heap.size = w.heap.size + 1 := World.size_alloc _ _
  have B1 := qh ((alloc_up w (.cells #[.slice A1 n1 c1, .slice A2 n2 c2] 26)).alloc (by rw [sz]; omega) (.cells #[.slice none 0 0, .slice none 0 0] 26))
  have P1 := qh ((Blk.new w 26 #[.slice A1 n1 c1, .slice A2 n2 c2]).alloc (.cells #[.slice none 0 0, .slice none 0 0] 26))
  have hZ := Blk.new (w.alloc (.cells #[.slice A1 n1 c1, .slice A2 n2 c2] 26)) 26 #[.slice none 0 0, .slice none 0 0]
  rw [sz] at hZ
  have Z1 := qh hZ
  clear hZ sz
  have y0 := (P1.out).cell 0
  have y1 := (P1.out).cell 1
  simp only [gT, gZ, gS] at y0 y1
  have y2 := (P1.out).frozen 0
  have y3 := (P1.out).frozen 1
  go_enter Tryz.func39, Tryz.ntmps39
  go_wp2_with fail
  generalize (w.alloc (.cells #[.slice A1 n1 c1, .slice A2 n2 c2] 26)).alloc (.cells #[.slice none 0 0, .slice none 0 0] 26) = w1 at B1 P1 Z1 y0 y1 y2 y3 ⊢
  refine (clusterValidS_any A1 A2 n1 c1 n2 c2 room us w1 (H.out.up B1.out) Hsh.out).mono ?_; rintro e w2 ⟨rfl, hb2⟩
  have B2 := qh (below_to B1.out hb2)
  have P2 := qh (P1.out.below hb2 P1.out.lt)
  have Z2 := qh (Z1.out.below hb2 Z1.out.lt)
  clear hb2 y0 y1 y2 y3 B1 P1 Z1
  have y0 := (P2.out).cell 0
  have y1 := (P2.out).cell 1
  simp only [gT, gZ, gS] at y0 y1
  have y2 := (P2.out).frozen 0
  have y3 := (P2.out).frozen 1
  cases hok : clOk room us with
  | false =>
    have Hp := qh (opnP_bad (node := node) (op := op) hok)
    have x0 := (Z2.out).cell 0
    have x1 := (Z2.out).cell 1
    simp only [gT, gZ, gS] at x0 x1
    have x2 := (Z2.out).frozen 0
    have x3 := (Z2.out).frozen 1
    go_wp2_with fail
    have KT := (KeepTU.set_ (Z2.out) (by decide) (by decide) (by decide) 0 (.slice none 0 0)).trans (KeepTU.set_ ((Z2.out).set_ 0 (.slice none 0 0)) (by decide) (by decide) (by decide) 1 (.slice none 0 0))
    have EQ := qh (((Z2.out).set_ 0 (.slice none 0 0)).set_ 1 (.slice none 0 0))
    have B9 := qh (((B2.out).setCell (p := ⟨w.heap.size + 1, 0, none⟩) (by show w.heap.size ≤ w.heap.size + 1; omega) (.slice none 0 0)).setCell (p := ⟨w.heap.size + 1, 1, none⟩) (by show w.heap.size ≤ w.heap.size + 1; omega) (.slice none 0 0))
    have OC := qh (((OwnCR.none : OwnCR w2 w.heap.size (.slice none 0 0) (.slice none 0 0) 0 0 [] [])).keepTU KT)
    clear KT
    generalize World.setCell (World.setCell w2 ⟨w.heap.size + 1, 0, none⟩ (.slice none 0 0)) ⟨w.heap.size + 1, 1, none⟩ (.slice none 0 0) = w9 at EQ B9 OC ⊢
    have z0 : w9.cell? ⟨w.heap.size + 1, 0, none⟩ = some (.slice none 0 0) := EQ.out.cell 0
    have z1 : w9.cell? ⟨w.heap.size + 1, 1, none⟩ = some (.slice none 0 0) := EQ.out.cell 1
    refine bodyPost_ret (v := .tuple #[.agg #[(.slice none 0 0), (.slice none 0 0)], .int .i64 1]) (by simp [results, Tryz.results39, go_sem, z0, z1]) rfl ⟨none, 0, 0, none, 0, 0, by rw [Hp.out], ?_, B9.out⟩
    rw [Hp.out]
    exact OC.out
  | true =>
    have Hok := qh hok
    clear hok
    go_wp2_with fail
    refine (l21Copy_any A1 A2 n1 c1 n2 c2 room us w2 (H.out.up B2.out) Hsh.out hn1).mono ?_; rintro e w3 ⟨A3, c3, A4, c4, rfl, hoc, hb3⟩
    have d4 := below_to hb3 (alloc_up w3 (.cells #[.slice A3 n1 c3, .slice A4 n2 c4] 26))
    have B4 := qh (below_to B2.out d4)
    have P4 := qh (P2.out.below d4 P2.out.lt)
    have Z4 := qh (Z2.out.below d4 Z2.out.lt)
    have Q4 := qh (Blk.new w3 26 #[.slice A3 n1 c3, .slice A4 n2 c4])
    have OC4 := qh (((OwnCR.of hoc).low B2.out.size).keepTU (KeepTU.up (alloc_up w3 (.cells #[.slice A3 n1 c3, .slice A4 n2 c4] 26))))
    have lg : w.heap.size + 1 < w3.heap.size := (Z2.out.below hb3 Z2.out.lt).lt
    clear hoc hb3 d4 y0 y1 y2 y3 B2 P2 Z2
    have y0 := (P4.out).cell 0
    have y1 := (P4.out).cell 1
    simp only [gT, gZ, gS] at y0 y1
    have y2 := (P4.out).frozen 0
    have y3 := (P4.out).frozen 1
    have q0 := (Q4.out).cell 0
    have q1 := (Q4.out).cell 1
    simp only [gT, gZ, gS] at q0 q1
    have q2 := (Q4.out).frozen 0
    have q3 := (Q4.out).frozen 1
    have x0 := (Z4.out).cell 0
    have x1 := (Z4.out).cell 1
    simp only [gT, gZ, gS] at x0 x1
    have x2 := (Z4.out).frozen 0
    have x3 := (Z4.out).frozen 1
    have lb := clOk_facts Hok.out
    have ln1 : 1 ≤ n2 := by have := lb.2.1; have := hl.out; omega
    have v1 : IntKind.i64.wrap ((n2 : Int) - 1) = (n2 : Int) - 1 := wr64 (by omega) (by omega)
    have R4 := qh ((H.out.up B4.out).b)
    clear lb
    go_wp2_with fail
    generalize hg6 : w3.heap.size = g6 at Q4 q0 q1 q2 q3 lg ⊢
    clear hg6
    generalize w3.alloc (.cells #[.slice A3 n1 c3, .slice A4 n2 c4] 26) = w4 at B4 P4 Z4 Q4 OC4 R4 y0 y1 y2 y3 q0 q1 q2 q3 x0 x1 x2 x3 ⊢
    cases hin : inR 0 ((n2 : Int) - 1) node with
    | false =>
      have Hp := qh (opnP_none (op := op) Hok.out (by rw [hl.out]; exact hin))
      refine (l6In_any _ _ _ _).mono ?_; rintro e w5 ⟨rfl, rfl⟩; rw [hin]
      go_wp2_with fail
      have KT := (KeepTU.set_ (Z4.out) (by decide) (by decide) (by decide) 0 (.slice A3 n1 c3)).trans (KeepTU.set_ ((Z4.out).set_ 0 (.slice A3 n1 c3)) (by decide) (by decide) (by decide) 1 (.slice A4 n2 c4))
      have EQ := qh (((Z4.out).set_ 0 (.slice A3 n1 c3)).set_ 1 (.slice A4 n2 c4))
      have B9 := qh (((B4.out).setCell (p := ⟨w.heap.size + 1, 0, none⟩) (by show w.heap.size ≤ w.heap.size + 1; omega) (.slice A3 n1 c3)).setCell (p := ⟨w.heap.size + 1, 1, none⟩) (by show w.heap.size ≤ w.heap.size + 1; omega) (.slice A4 n2 c4))
      have OC := qh ((OC4.out).keepTU KT)
      clear KT
      generalize World.setCell (World.setCell w4 ⟨w.heap.size + 1, 0, none⟩ (.slice A3 n1 c3)) ⟨w.heap.size + 1, 1, none⟩ (.slice A4 n2 c4) = w9 at EQ B9 OC ⊢
      have z0 : w9.cell? ⟨w.heap.size + 1, 0, none⟩ = some (.slice A3 n1 c3) := EQ.out.cell 0
      have z1 : w9.cell? ⟨w.heap.size + 1, 1, none⟩ = some (.slice A4 n2 c4) := EQ.out.cell 1
      (try simp only [Exit.inBlock, Exit.then]); change bodyPost Tryz.prog Tryz.f39 _ _ _ _; refine bodyPost_ret (v := .tuple #[.agg #[(.slice A3 n1 c3), (.slice A4 n2 c4)], .int .i64 4]) (by simp [results, Tryz.results39, go_sem, z0, z1]) rfl ⟨A3, n1, c3, A4, n2, c4, by rw [Hp.out], ?_, B9.out⟩
      rw [Hp.out]
      exact OC.out
    | true =>
      obtain ⟨i1, i2⟩ := inR_iff.1 hin
      obtain ⟨k, rfl⟩ := Int.eq_ofNat_of_zero_le i1
      have hkl : k < n2 := by omega
      have Hin := qh (show inR 0 ((us.length : Int) - 1) (k : Int) = true by rw [hl.out]; exact hin)
      have k1 : (0 : Int) ≤ (k : Int) := by omega
      have k2 : (k : Int) < (n2 : Int) := by omega
      have k3 : 0 ≤ (k : Int) * 2 := by omega
      obtain ⟨b, o, A', m', c', rfl, lb, hc1, hc2, hmc, hrd⟩ := R4.out.at_ hkl
      have Hml := qh hrd.len
      clear hrd
      cases hop : ((us[k]?.getD (false, [])).1 == op) with
      | true =>
        have Hp := qh (opnP_twice Hok.out Hin.out (by simpa using hop))
        refine (l6In_any _ _ _ _).mono ?_; rintro e w5 ⟨rfl, rfl⟩; rw [hin]
        go_wp2_with fail
        have KT := (KeepTU.set_ (Z4.out) (by decide) (by decide) (by decide) 0 (.slice A3 n1 c3)).trans (KeepTU.set_ ((Z4.out).set_ 0 (.slice A3 n1 c3)) (by decide) (by decide) (by decide) 1 (.slice A4 n2 c4))
        have EQ := qh (((Z4.out).set_ 0 (.slice A3 n1 c3)).set_ 1 (.slice A4 n2 c4))
        have B9 := qh (((B4.out).setCell (p := ⟨w.heap.size + 1, 0, none⟩) (by show w.heap.size ≤ w.heap.size + 1; omega) (.slice A3 n1 c3)).setCell (p := ⟨w.heap.size + 1, 1, none⟩) (by show w.heap.size ≤ w.heap.size + 1; omega) (.slice A4 n2 c4))
        have OC := qh ((OC4.out).keepTU KT)
        clear KT
        generalize World.setCell (World.setCell w4 ⟨w.heap.size + 1, 0, none⟩ (.slice A3 n1 c3)) ⟨w.heap.size + 1, 1, none⟩ (.slice A4 n2 c4) = w9 at EQ B9 OC ⊢
        have z0 : w9.cell? ⟨w.heap.size + 1, 0, none⟩ = some (.slice A3 n1 c3) := EQ.out.cell 0
        have z1 : w9.cell? ⟨w.heap.size + 1, 1, none⟩ = some (.slice A4 n2 c4) := EQ.out.cell 1
        (try simp only [Exit.inBlock, Exit.then]); change bodyPost Tryz.prog Tryz.f39 _ _ _ _; refine bodyPost_ret (v := .tuple #[.agg #[(.slice A3 n1 c3), (.slice A4 n2 c4)], .int .i64 2]) (by simp [results, Tryz.results39, go_sem, z0, z1]) rfl ⟨A3, n1, c3, A4, n2, c4, by rw [Hp.out], ?_, B9.out⟩
        rw [Hp.out]
        exact OC.out
      | false =>
        have hop' : (us[k]?.getD (false, [])).1 ≠ op := by simpa using hop
        by_cases hb : 0 < m'
        · have Hp := qh (opnP_busy Hok.out Hin.out hop' (by rw [Hml.out]; exact hb))
          clear hop'
          refine (l6In_any _ _ _ _).mono ?_; rintro e w5 ⟨rfl, rfl⟩; rw [hin]
          go_wp2_with fail
          have KT := (KeepTU.set_ (Z4.out) (by decide) (by decide) (by decide) 0 (.slice A3 n1 c3)).trans (KeepTU.set_ ((Z4.out).set_ 0 (.slice A3 n1 c3)) (by decide) (by decide) (by decide) 1 (.slice A4 n2 c4))
          have EQ := qh (((Z4.out).set_ 0 (.slice A3 n1 c3)).set_ 1 (.slice A4 n2 c4))
          have B9 := qh (((B4.out).setCell (p := ⟨w.heap.size + 1, 0, none⟩) (by show w.heap.size ≤ w.heap.size + 1; omega) (.slice A3 n1 c3)).setCell (p := ⟨w.heap.size + 1, 1, none⟩) (by show w.heap.size ≤ w.heap.size + 1; omega) (.slice A4 n2 c4))
          have OC := qh ((OC4.out).keepTU KT)
          clear KT
          generalize World.setCell (World.setCell w4 ⟨w.heap.size + 1, 0, none⟩ (.slice A3 n1 c3)) ⟨w.heap.size + 1, 1, none⟩ (.slice A4 n2 c4) = w9 at EQ B9 OC ⊢
          have z0 : w9.cell? ⟨w.heap.size + 1, 0, none⟩ = some (.slice A3 n1 c3) := EQ.out.cell 0
          have z1 : w9.cell? ⟨w.heap.size + 1, 1, none⟩ = some (.slice A4 n2 c4) := EQ.out.cell 1
          (try simp only [Exit.inBlock, Exit.then]); change bodyPost Tryz.prog Tryz.f39 _ _ _ _; refine bodyPost_ret (v := .tuple #[.agg #[(.slice A3 n1 c3), (.slice A4 n2 c4)], .int .i64 5]) (by simp [results, Tryz.results39, go_sem, z0, z1]) rfl ⟨A3, n1, c3, A4, n2, c4, by rw [Hp.out], ?_, B9.out⟩
          rw [Hp.out]
          exact OC.out
        · have Hp := qh (opnP_yes Hok.out Hin.out hop' (by rw [Hml.out]; exact hb))
          clear hop'
          obtain ⟨hr6, vs, tk, hU, hN⟩ := OC4.out
          obtain ⟨gu, cap, hv, hgu1, hgu2⟩ := hU.form (by omega)
          injection hv with hv1 hv2 hv3
          subst hv1 hv3
          obtain ⟨e1, _⟩ := hN.2.2.1 k hkl
          have u1 := hU.cells (g := gu) rfl (k * 2) _ e1
          rw [addr_add, Nat.zero_add] at u1
          have f1 := hU.frozenAt (k * 2)
          obtain ⟨_, curU, eU, _, hbU⟩ := own_row hU (by omega)
          injection eU with eU
          injection eU with eU
          subst eU
          have KT := KeepTI.set_ hbU (by decide) (by decide) (k * 2) (.bool op)
          have B5 := qh (B4.out.setCell (p := ⟨gu, k * 2, none⟩) (by show w.heap.size ≤ gu; omega) (.bool op))
          have Z5 := qh (Z4.out.far (p := ⟨gu, k * 2, none⟩) (fun e => own_blk_ne hU Z4.out (by decide) (by rw [e]; rfl)) (.bool op))
          have Q5 := qh (Q4.out.far (p := ⟨gu, k * 2, none⟩) (fun e => own_blk_ne hU Q4.out (by decide) (by rw [e]; rfl)) (.bool op))
          have OC5 := qh (show OwnCR (w4.setCell ⟨gu, k * 2, none⟩ (.bool op)) w.heap.size (.slice A3 n1 c3) (.slice (some ⟨gu, 0, none⟩) n2 c4) n1 n2 room (us.set k (op, (us[k]?.getD (false, [])).2)) from ⟨own_keepTI hr6 (.inl rfl) KT, _, _, own_set hU (k * 2) (.bool op), (hN.keepTI KT).open_ hkl⟩)
          clear hU hN hr6 e1 OC4 KT hbU
          have q4 := (Q5.out).cell 0
          have q5 := (Q5.out).cell 1
          simp only [gT, gZ, gS] at q4 q5
          have q6 := (Q5.out).frozen 0
          have q7 := (Q5.out).frozen 1
          have x4 := (Z5.out).cell 0
          have x5 := (Z5.out).cell 1
          simp only [gT, gZ, gS] at x4 x5
          have x6 := (Z5.out).frozen 0
          have x7 := (Z5.out).frozen 1
          refine (l6In_any _ _ _ _).mono ?_; rintro e w5 ⟨rfl, rfl⟩; rw [hin]
          go_wp2_with fail
          have KT := (KeepTU.set_ (Z5.out) (by decide) (by decide) (by decide) 0 (.slice A3 n1 c3)).trans (KeepTU.set_ ((Z5.out).set_ 0 (.slice A3 n1 c3)) (by decide) (by decide) (by decide) 1 (.slice (some ⟨gu, 0, none⟩) n2 c4))
          have EQ := qh (((Z5.out).set_ 0 (.slice A3 n1 c3)).set_ 1 (.slice (some ⟨gu, 0, none⟩) n2 c4))
          have B9 := qh (((B5.out).setCell (p := ⟨w.heap.size + 1, 0, none⟩) (by show w.heap.size ≤ w.heap.size + 1; omega) (.slice A3 n1 c3)).setCell (p := ⟨w.heap.size + 1, 1, none⟩) (by show w.heap.size ≤ w.heap.size + 1; omega) (.slice (some ⟨gu, 0, none⟩) n2 c4))
          have OC := qh ((OC5.out).keepTU KT)
          clear KT
          generalize World.setCell (World.setCell (w4.setCell ⟨gu, k * 2, none⟩ (.bool op)) ⟨w.heap.size + 1, 0, none⟩ (.slice A3 n1 c3)) ⟨w.heap.size + 1, 1, none⟩ (.slice (some ⟨gu, 0, none⟩) n2 c4) = w9 at EQ B9 OC ⊢
          have z0 : w9.cell? ⟨w.heap.size + 1, 0, none⟩ = some (.slice A3 n1 c3) := EQ.out.cell 0
          have z1 : w9.cell? ⟨w.heap.size + 1, 1, none⟩ = some (.slice (some ⟨gu, 0, none⟩) n2 c4) := EQ.out.cell 1
          (try simp only [Exit.inBlock, Exit.then]); change bodyPost Tryz.prog Tryz.f39 _ _ _ _; refine bodyPost_ret (v := .tuple #[.agg #[(.slice A3 n1 c3), (.slice (some ⟨gu, 0, none⟩) n2 c4)], .int .i64 0]) (by simp [results, Tryz.results39, go_sem, z0, z1]) rfl ⟨A3, n1, c3, some ⟨gu, 0, none⟩, n2, c4, by rw [Hp.out], ?_, B9.out⟩
          rw [Hp.out]
          exact OC.out
end Go.Proofs.YtlcgbnmmbheleaaGreat

namespace Go.Proofs.YtlcgbnmmbheleaaGreat
open Go Go.RowKit
attribute [local go_sem ↓] Go.wp_at_zero Go.wp_at_succ

def atB (room xs : List Int) (op : Bool) (u : Un) : Bool := (u.1 == op) && fits3 (add3 (loadP u.2) xs) room
def cAtP (room : List Int) (us : List Un) (xs : List Int) (op : Bool) : Int := idxP (atB room xs op) us
theorem clOk_vecs {room : List Int} {us : List Un} (h : clOk room us = true) : vecOk room = true ∧ ∀ u ∈ us, u.2.length ≤ 14 ∧ ∀ t ∈ u.2, vecOk t.2 = true := by
  obtain ⟨_, _, _, f4⟩ := clOk_facts h
  simp only [clOk, binsOk, tasksOk, Bool.and_eq_true, decide_eq_true_eq, List.all_eq_true] at h
  obtain ⟨⟨_, ⟨_, ⟨⟨⟨h3, _⟩, h5⟩, _⟩⟩, _⟩, _⟩ := h
  simp only [roomOk, Bool.and_eq_true] at h3
  refine ⟨h3.1, fun u hu => ⟨(f4 u hu).1, fun t ht => ?_⟩⟩
  have := h5 t (List.mem_flatten.2 ⟨u.2, List.mem_map.2 ⟨u, hu, rfl⟩, ht⟩)
  simp only [taskOk, vecFits, Bool.and_eq_true] at this
  exact this.2.1.1

set_option maxRecDepth 100000 in
set_option maxHeartbeats 3200000 in
theorem l21At_any (A1 A2 A3 : Option Addr) (n1 c1 n2 c2 c3 : Nat) (room : List Int) (us : List Un) (id : Int) (xs : List Int) (op : Bool) (w : World) (h : RdC w A1 A2 n1 n2 room us) (hx : RdI w w.heap.size A3 3 xs) (hok : clOk room us = true) (hv : vecOk xs = true) :
    Calls Tryz.prog 109 #[.agg #[.slice A1 n1 c1, .slice A2 n2 c2], .agg #[.int .i64 id, .slice A3 3 c3], .bool op] w fun e w' => e = .returned (.int .i64 (cAtP room us xs op)) ∧ Below w.heap.size w w' := by
  have hl := qh h.b.len
  have hl1 := qh h.a.len
  have ln := h.b.le
  have H := qh h
  have HX := qh hx
  have Hv := qh (clOk_vecs hok)
  have Hxs := qh (fun j (_ : j < 3) => vecOk_bd hv j)
  clear h hx hok hv
  have sz : (w.alloc (.cells #[.slice A1 n1 c1, .slice A2 n2 c2] 26)).heap.size = w.heap.size + 1 := World.size_alloc _ _
  have B1 := qh ((alloc_up w (.cells #[.slice A1 n1 c1, .slice A2 n2 c2] 26)).alloc (by rw [sz]; omega) (.cells #[.int .i64 id, .slice A3 3 c3] 40))
  have P1 := qh ((Blk.new w 26 #[.slice A1 n1 c1, .slice A2 n2 c2]).alloc (.cells #[.int .i64 id, .slice A3 3 c3] 40))
  have hT := Blk.new (w.alloc (.cells #[.slice A1 n1 c1, .slice A2 n2 c2] 26)) 40 #[.int .i64 id, .slice A3 3 c3]
  rw [sz] at hT
  have T1 := qh hT
  clear hT sz
  go_enter Tryz.func109, Tryz.ntmps109
  go_wp2_with fail
  generalize (w.alloc (.cells #[.slice A1 n1 c1, .slice A2 n2 c2] 26)).alloc (.cells #[.int .i64 id, .slice A3 3 c3] 40) = w1 at B1 P1 T1 ⊢
  go_loopw [7] (fun i wr => ∃ k : Nat, i = .int .i64 k ∧ k ≤ n2 ∧ Below w.heap.size w wr ∧ Blk wr w.heap.size 26 #[.slice A1 n1 c1, .slice A2 n2 c2] ∧ Blk wr (w.heap.size + 1) 40 #[.int .i64 id, .slice A3 3 c3] ∧ (∀ j, j < k → atB room xs op (us[j]?.getD (false, [])) = false)) (fun i _ => n2 - (intOf i).toNat)
  case atStart => exact ⟨0, rfl, Nat.zero_le _, B1.out, P1.out, T1.out, by intro j hj; omega⟩
  case round =>
    clear B1 P1 T1
    obtain ⟨k, rfl, hk, hbel, hblk, htk, hall⟩ := hrel
    have Hall := qh hall
    have y1 := hblk.cell 1
    simp only [gT, gZ, gS] at y1
    by_cases hlt : k < n2
    · have HB := qh hbel.drew
      have HP := qh hblk.drew
      have HT := qh htk.drew
      have k1 : (0 : Int) ≤ (k : Int) := by omega
      have k2 : (k : Int) < (n2 : Int) := by omega
      have k3 : 0 ≤ (k : Int) * 2 := by omega
      have hkl : Hid (k < us.length) := by have := hl.out; show _ < _; omega
      have hr := H.out.up HB.out
      obtain ⟨b, o, A', m', c', hA, lb, hc1, hc2, hmc, hrd⟩ := hr.b.at_ hlt
      obtain ⟨b0, o0, hA0, lb0, _⟩ := H.out.b.2.2 (by omega)
      rw [hA0] at hA
      injection hA with hA
      injection hA with hA1 hA2
      subst hA1 hA2 hA0
      have hvu := (Hv.out.2 _ (un_mem hkl.out))
      have hm14 : m' ≤ 14 := by have := hrd.len; have := hvu.1; omega
      have hcall := qh (l11Fits_any A1 A' A3 n1 c1 m' c' c3 room (us[k]?.getD (false, [])).2 id xs wr.drew hr.a hrd (HX.out.up HB.out) (by have := vecOk_len Hv.out.1; have := hl1.out; omega) (by omega) (fun j hj => vecOk_len (hvu.2 _ (tk_mem (by rw [hrd.len]; exact hj)))) (fun j i => by
        by_cases hj : j < (us[k]?.getD (false, [])).2.length
        · have := vecOk_bd (hvu.2 _ (tk_mem hj)) i; omega
        · have hn : (us[k]?.getD (false, [])).2[j]? = none := List.getElem?_eq_none (by omega)
          rw [hn]; simp) (fun j hj => by have := Hxs.out j hj; omega))
      clear hall hbel hblk htk hr hrd hvu
      have hS := qh (fun w' (hb : Below wr.drew.heap.size wr.drew w') => (⟨⟨(HP.out.below hb HP.out.lt).cell 0, (HP.out.below hb HP.out.lt).cell 1⟩, ⟨(HT.out.below hb HT.out.lt).cell 0, (HT.out.below hb HT.out.lt).cell 1⟩, (hb.cell (p := ⟨b0, o0 + k * 2, none⟩) lb).trans hc1, (hb.cell (p := ⟨b0, o0 + k * 2 + 1, none⟩) lb).trans hc2⟩ : (w'.cell? ⟨w.heap.size, 0, none⟩ = some (.slice A1 n1 c1) ∧ w'.cell? ⟨w.heap.size, 1, none⟩ = some (.slice (some ⟨b0, o0, none⟩) n2 c2)) ∧ (w'.cell? ⟨w.heap.size + 1, 0, none⟩ = some (.int .i64 id) ∧ w'.cell? ⟨w.heap.size + 1, 1, none⟩ = some (.slice A3 3 c3)) ∧ w'.cell? ⟨b0, o0 + k * 2, none⟩ = some (.bool (us[k]?.getD (false, [])).1) ∧ w'.cell? ⟨b0, o0 + k * 2 + 1, none⟩ = some (.slice A' m' c')))
      have K0 := hS.out wr.drew (Below.refl _ _)
      clear hc1 hc2
      have Hb := qh (show atB room xs op (us[k]?.getD (false, [])) = (((us[k]?.getD (false, [])).1 == op) && fits3 (add3 (loadP (us[k]?.getD (false, [])).2) xs) room) from rfl)
      generalize (us[k]?.getD (false, [])).1 = uo at *
      go_wp2_with fail
      clear y1
      cases hop : (uo == op) with
      | false =>
        have hop2 : Hid (atB room xs op (us[k]?.getD (false, [])) = false) := by show _ = _; rw [Hb.out, hop, Bool.false_and]
        refine wp_region_mix (.take 0 (.take 1 (.take 2 (.take 3 (.take 4 (.take 5 (.take 6 (.take 7 (.take 8 (.take 9 (.take 10 (.take 11 (.take 12 (.take 13 (.take 14 (.take 15 (.take 16 (.take 17 (.take 18 (.take 19 .nil)))))))))))))))))))) (fun w' => (w'.cell? ⟨w.heap.size, 0, none⟩ = some (.slice A1 n1 c1) ∧ w'.cell? ⟨w.heap.size, 1, none⟩ = some (.slice (some ⟨b0, o0, none⟩) n2 c2)) ∧ (w'.cell? ⟨w.heap.size + 1, 0, none⟩ = some (.int .i64 id) ∧ w'.cell? ⟨w.heap.size + 1, 1, none⟩ = some (.slice A3 3 c3)) ∧ w'.cell? ⟨b0, o0 + k * 2, none⟩ = some (.bool uo) ∧ w'.cell? ⟨b0, o0 + k * 2 + 1, none⟩ = some (.slice A' m' c')) (by kernel_rfl) (by kernel_rfl) K0 (fun _ => ?_)
        clear K0
        repeat ((first | refine mxS (by rfl) (by rfl) ?_ | (refine mxT (v := ?_) (by rfl) (by rfl) (fun z y => ?_) ?_; rotate_left; (focus ((try dsimp only at y); (go_simp <;> with_reducible rfl); done)))); (try simp only [Act.put,pS,pZ,pC]))
        refine wpMix_nil ?_
        go_wp2_with fail
        go_roundw
        case rel => exact ⟨k + 1, by go_num, by omega, HB.out, HP.out, HT.out, fun j hj => by
          by_cases e : j = k
          · rw [e]; exact hop2.out
          · exact Hall.out j (by omega)⟩
        case measure => simp [intOf]; omega
      | true =>
        refine wp_region_mix (.take 0 (.take 1 (.take 2 (.take 3 (.take 4 (.take 5 (.take 6 (.take 7 (.take 8 (.take 9 (.take 10 (.take 11 (.take 12 (.take 13 (.take 14 (.take 15 (.take 16 (.take 17 (.bar 18 (.take 19 .nil)))))))))))))))))))) (fun w' => (w'.cell? ⟨w.heap.size, 0, none⟩ = some (.slice A1 n1 c1) ∧ w'.cell? ⟨w.heap.size, 1, none⟩ = some (.slice (some ⟨b0, o0, none⟩) n2 c2)) ∧ (w'.cell? ⟨w.heap.size + 1, 0, none⟩ = some (.int .i64 id) ∧ w'.cell? ⟨w.heap.size + 1, 1, none⟩ = some (.slice A3 3 c3)) ∧ w'.cell? ⟨b0, o0 + k * 2, none⟩ = some (.bool uo) ∧ w'.cell? ⟨b0, o0 + k * 2 + 1, none⟩ = some (.slice A' m' c')) (by kernel_rfl) (by kernel_rfl) K0 (fun _ => ?_)
        clear K0
        repeat ((first | refine mxS (by rfl) (by rfl) ?_ | (refine mxT (v := ?_) (by rfl) (by rfl) (fun z y => ?_) ?_; rotate_left; (focus ((try dsimp only at y); (go_simp <;> with_reducible rfl); done)))); (try simp only [Act.put,pS,pZ,pC]))
        (refine mxB (by rfl) (fun K hK => ?_); go_simp)
        refine hcall.out.mono ?_; rintro e w2 ⟨rfl, hb2⟩
        have B2 := qh (below_to HB.out hb2)
        have P2 := qh (HP.out.below hb2 HP.out.lt)
        have T2 := qh (HT.out.below hb2 HT.out.lt)
        cases hf : fits3 (add3 (loadP (us[k]?.getD (false, [])).2) xs) room with
        | false =>
          have hop2 : Hid (atB room xs op (us[k]?.getD (false, [])) = false) := by show _ = _; rw [Hb.out, hf, Bool.and_false]
          ((try dsimp only); refine nxK hK _ _ (hS.out _ hb2) ?_; clear hK K; (try simp only [Act.put,pS,pZ,pC]))
          clear hb2
          repeat ((first | refine mxS (by rfl) (by rfl) ?_ | (refine mxT (v := ?_) (by rfl) (by rfl) (fun z y => ?_) ?_; rotate_left; (focus ((try dsimp only at y); (go_simp <;> with_reducible rfl); done)))); (try simp only [Act.put,pS,pZ,pC]))
          refine wpMix_nil ?_
          go_wp2_with fail
          go_roundw
          case rel => exact ⟨k + 1, by go_num, by omega, B2.out, P2.out, T2.out, fun j hj => by
            by_cases e : j = k
            · rw [e]; exact hop2.out
            · exact Hall.out j (by omega)⟩
          case measure => simp [intOf]; omega
        | true =>
          have hop2 : Hid (atB room xs op (us[k]?.getD (false, [])) = true) := by show _ = _; rw [Hb.out, hf, hop]; rfl
          ((try dsimp only); refine nxK hK _ _ (hS.out _ hb2) ?_; clear hK K; (try simp only [Act.put,pS,pZ,pC]))
          clear hb2
          repeat ((first | refine mxS (by rfl) (by rfl) ?_ | (refine mxT (v := ?_) (by rfl) (by rfl) (fun z y => ?_) ?_; rotate_left; (focus ((try dsimp only at y); (go_simp <;> with_reducible rfl); done)))); (try simp only [Act.put,pS,pZ,pC]))
          refine wpMix_nil ?_
          go_wp2_with fail
          go_ret
          exact ⟨ret_int (idxP_some (d := (false, [])) hkl.out hop2.out (fun j hj => Hall.out j hj)).symm, B2.out⟩
    · have HB := qh hbel
      clear hbel hblk htk hall
      go_wp2_with fail
      go_ret
      exact ⟨ret_int (idxP_none (d := (false, [])) (fun j hj => Hall.out j (by have := hl.out; omega))).symm, HB.out⟩
end Go.Proofs.YtlcgbnmmbheleaaGreat
