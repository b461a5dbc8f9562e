/- Walk: the reference's l31Read. -/
import Derived.Test.YtlegpecjoaklnaaGreatDoorClSpecB
namespace Go.Proofs.YtlegpecjoaklnaaGreatDoor
open Go Go.RowKit
attribute [local go_sem ↓] Go.wp_at_zero Go.wp_at_succ

/-- A part of a slice of integers, as a source. -/
theorem srcPart {w : World} {B n b o : Nat} {xs : List Int} (h : RdI w B (some ⟨b, o, none⟩) n xs) {i m : Nat} (hi : i + m ≤ n) : Src w 1 (some ⟨b, o + i, none⟩) m (((xs.drop i).take m).map (Value.int .i64)) := by
  have hl := h.len
  refine ⟨by simp [hl]; omega, fun hp => ⟨_, rfl, fun j u hu => ?_⟩⟩
  obtain ⟨b', o', e, _, hc⟩ := h.2.2 (by omega)
  injection e with e
  injection e with e1 e2
  subst e1 e2
  have hj : j < m := by
    rcases Nat.lt_or_ge j m with h1 | h1
    · exact h1
    · rw [List.getElem?_eq_none (by simp; omega)] at hu; cases hu
  rw [addr_add, Nat.add_assoc, hc (i + j) (by omega), ← hu, List.getElem?_map, List.getElem?_take, if_pos hj, List.getElem?_drop, List.getElem?_eq_getElem (by omega)]
  rfl

theorem unitsS_stop {zs : List Int} {p k F : Nat} (h : goB zs p k = false) : unitsS zs F p k = [] := by
  cases F with
  | zero => rfl
  | succ F => rw [unitsS, if_neg (by rw [h]; simp)]

set_option maxRecDepth 100000 in
set_option maxHeartbeats 3200000 in
theorem l31Read_any (A : Option Addr) (n c : Nat) (zs : List Int) (w : World) (h : RdI w w.heap.size A n zs) (hc : n ≤ c) (h3 : 4 ≤ n) (h200 : n ≤ 200) (hby : ∀ j, j < n → inR 0 255 (zs[j]?.getD 0) = true) :
    Calls Tryz.prog 74 #[.slice A n c] w fun e w' => ∃ A1 m1 c1 A2 m2 c2, e = .returned (.agg #[.slice A1 m1 c1, .slice A2 m2 c2]) ∧ OwnC w' w.heap.size (.slice A1 m1 c1) (.slice A2 m2 c2) m1 m2 (zs.take 3) (unitsS zs n 3 0) ∧ Below w.heap.size w w' := by
  obtain ⟨i0, hi0, hz0, hz1, hz2⟩ := info_parts ownI_info
  obtain ⟨t0, ht0, htz0, htz1, htz2⟩ := info_parts task_info
  obtain ⟨ui0, hu0, huz0, huz1, huz2⟩ := info_parts unit_info
  obtain ⟨b, o, rfl, hbl, _⟩ := h.at_ (show 0 < n by omega)
  have hl := Lib.hid h.len
  have H := Lib.hid h
  have Hby := Lib.hid hby
  clear h hby
  have hc' : (3 : Int) ≤ (c : Int) := by omega
  have B1 := (Below.refl w.heap.size w).alloc (Nat.le_refl _) (.cells #[.slice none 0 0, .slice none 0 0] 26)
  have P1 := Lib.hid (Blk.new w 26 #[.slice none 0 0, .slice none 0 0])
  have sz : (w.alloc (.cells #[.slice none 0 0, .slice none 0 0] 26)).heap.size = w.heap.size + 1 := World.size_alloc _ _
  have hO := World.ownsRow_lit (base := w.heap.size) (e := 3) (size := 1) (w.alloc (.cells #[.slice none 0 0, .slice none 0 0] 26)) #[] 0 (by rw [sz]; omega) (by unfold maxLen; omega) rfl
  rw [sz] at hO
  have O2 := Lib.hid (show ((w.alloc (.cells #[.slice none 0 0, .slice none 0 0] 26)).alloc (.cells #[] 3)).ownsRow w.heap.size 3 1 (.slice (some ⟨w.heap.size + 1, 0, none⟩) 0 0) 0 [] from hO)
  have B2 := Lib.hid (B1.alloc (by simp) (.cells #[] 3))
  have P2 := Lib.hid (P1.out.alloc (.cells #[] 3))
  have S2 := Lib.hid (srcPart (H.out.up B2.out) (i := 0) (m := 3) (by omega))
  have lz2 := B2.out.size
  have N2 := Lib.hid (ints_cell1 ((zs.drop 0).take 3))
  clear B1 P1 sz hO
  obtain ⟨R, hR⟩ : ∃ R, unitsS zs n 3 0 = R := ⟨_, rfl⟩
  rw [hR]
  have HR := Lib.hid hR
  clear hR
  go_enter Tryz.func74, Tryz.ntmps74
  go_wp2_with (at_builtin; refine wpList_append_src _ rfl _ _ 23 rfl w.heap.size 3 i0 _ 1 8 Tryz.underlying23 hi0 hz0 hz1 hz2 rfl (by omega) (.slice (some ⟨w.heap.size + 1, 0, none⟩) 0 0) 0 [] rfl O2.out (some ⟨b, o + 0, none⟩) 3 c _ rfl S2.out N2.out (by unfold maxLen; omega) (by omega) lz2 ?_; intro v' w4 hown4 hgrow4 hat4; rw [Nat.zero_add, List.nil_append, List.drop_zero] at hown4; obtain ⟨A4, c4, rfl⟩ := own_shape hown4)
  have B4 := Lib.hid (B2.out.grown hgrow4 lz2 (fun j e => (O2.out.lt j e).1))
  have P4 := Lib.hid (P2.out.grown hgrow4 (fun e => own_blk_ne O2.out P2.out (by decide) e.symm))
  have O4 := Lib.hid hown4
  have lz4 := B4.out.size
  clear hown4 hgrow4 hat4 O2 B2 P2 S2 N2 lz2
  have sz : (w4.alloc (.cells #[] 52)).heap.size = w4.heap.size + 1 := World.size_alloc _ _
  have U5 := Lib.hid (show ((w4.alloc (.cells #[] 52)).alloc (.cells #[.slice A4 3 c4, .slice (some ⟨w4.heap.size, 0, none⟩) 0 0] 26)).ownsRow w4.heap.size 52 2 (.slice (some ⟨w4.heap.size, 0, none⟩) 0 0) 0 [] from
    own_alloc (World.ownsRow_lit (base := w4.heap.size) (e := 52) (size := 2) w4 #[] 0 (Nat.le_refl _) (by unfold maxLen; omega) rfl) _)
  have hC := Blk.new (w4.alloc (.cells #[] 52)) 26 #[.slice A4 3 c4, .slice (some ⟨w4.heap.size, 0, none⟩) 0 0]
  rw [sz] at hC
  have C5 := Lib.hid hC
  have P5 := Lib.hid ((P4.out.alloc (.cells #[] 52)).alloc (.cells #[.slice A4 3 c4, .slice (some ⟨w4.heap.size, 0, none⟩) 0 0] 26))
  have B5 := Lib.hid ((B4.out.alloc lz4 (.cells #[] 52)).alloc (by rw [sz]; omega) (.cells #[.slice A4 3 c4, .slice (some ⟨w4.heap.size, 0, none⟩) 0 0] 26))
  have O5 := Lib.hid (own_alloc (own_alloc O4.out (.cells #[] 52)) (.cells #[.slice A4 3 c4, .slice (some ⟨w4.heap.size, 0, none⟩) 0 0] 26))
  have Lo := Lib.hid (fun b hb => (O4.out.lt b hb).2)
  have lz5 : w4.heap.size ≤ ((w4.alloc (.cells #[] 52)).alloc (.cells #[.slice A4 3 c4, .slice (some ⟨w4.heap.size, 0, none⟩) 0 0] 26)).heap.size := by rw [World.size_alloc, sz]; omega
  clear hC sz O4 P4 B4
  generalize (w4.alloc (.cells #[] 52)).alloc (.cells #[.slice A4 3 c4, .slice (some ⟨w4.heap.size, 0, none⟩) 0 0] 26) = w5 at U5 C5 P5 B5 O5 lz5 ⊢
  generalize w4.heap.size = md at *
  go_loopw [4] (fun a wr => ∃ (p k F : Nat) (A6 : Option Addr) (c6 : Nat) (vs : List Value) (tk : Nat → Value) (f : Nat → Nat) (us : List Un), a = .int .i64 p ∧ k ≤ 10 ∧ p ≤ n ∧ n ≤ F + p ∧ Below w.heap.size w wr ∧ Blk wr w.heap.size 26 #[.slice none 0 0, .slice none 0 0] ∧
    Blk wr (md + 1) 26 #[.slice A4 3 c4, .slice A6 k c6] ∧ wr.ownsRow w.heap.size 3 1 (.slice A4 3 c4) 3 ((zs.take 3).map (Value.int .i64)) ∧ wr.ownsRow md 52 2 (.slice A6 k c6) k vs ∧ NdUs wr k vs tk f us ∧ md ≤ f 0 ∧ f k ≤ wr.heap.size ∧ R = us ++ unitsS zs F p k) (fun a _ => n - (intOf a).toNat)
  case atStart => exact ⟨3, 0, n, _, 0, [], _, _, [], rfl, by omega, by omega, by omega, B5.out, P5.out, C5.out, O5.out, U5.out, NdUs.nil md, Nat.le_refl _, lz5, HR.out.symm⟩
  case round =>
    clear B5 P5 C5 O5 U5 lz5
    obtain ⟨p, k, F, A6, c6, vs, tk, f, us, rfl, hk, hp, hF, hbel, hblk, hcl, hrm, hun, hnd, hmd, hfk, hR⟩ := hrel
    have Hbel := Lib.hid hbel
    have Hblk := Lib.hid hblk
    have Hcl := Lib.hid hcl
    have Hrm := Lib.hid hrm
    have Hun := Lib.hid hun
    have Hnd := Lib.hid hnd
    have HR2 := Lib.hid hR
    have Hmd := Lib.hid hmd
    have Hfk := Lib.hid hfk
    have lz := hbel.size
    have y0 := hcl.cell 0
    have y1 := hcl.cell 1
    simp only [List.getElem?_toArray, List.getElem?_cons_zero, List.getElem?_cons_succ] at y0 y1
    have hcells := (H.out.below hbel).2.2 (by omega)
    obtain ⟨b', o', e', lb, hcz⟩ := hcells
    injection e' with e'
    injection e' with e1 e2
    subst e1 e2
    clear hbel hblk hcl hrm hun hnd hR hmd hfk
    have w1 : IntKind.i64.wrap ((p : Int) + 2) = (p : Int) + 2 := wr64 (by omega) (by omega)
    have w2 : IntKind.i64.wrap ((p : Int) + 1) = (p : Int) + 1 := wr64 (by omega) (by omega)
    have x0 := Hblk.out.cell 0
    have x1 := Hblk.out.cell 1
    simp only [List.getElem?_toArray, List.getElem?_cons_zero, List.getElem?_cons_succ] at x0 x1
    have x2 := Hblk.out.frozen 0
    have x3 := Hblk.out.frozen 1
    by_cases g1 : (p : Int) + 2 < (n : Int)
    · have k1 : (0 : Int) ≤ (p : Int) + 1 := by omega
      have k2 : (p : Int) + 1 < (n : Int) := by omega
      have hcp := hcz (p + 1) (by omega)
      have hc0 := hcz p (by omega)
      have hpi := inR_iff.1 (Hby.out (p + 1) (by omega))
      obtain ⟨q, hq⟩ := Int.eq_ofNat_of_zero_le hpi.1
      have Hq := Lib.hid (show ibyte zs (p + 1) = q by unfold ibyte; rw [hq]; rfl)
      rw [hq] at hcp hpi
      have w3 : IntKind.i64.wrap (4 * (q : Int)) = 4 * (q : Int) := wr64 (by omega) (by omega)
      have w4 : IntKind.i64.wrap ((p : Int) + 2 + 4 * (q : Int)) = (p : Int) + 2 + 4 * (q : Int) := wr64 (by omega) (by omega)
      clear hq
      by_cases g2 : (q : Int) ≤ 14
      · by_cases g3 : (p : Int) + 2 + 4 * (q : Int) < (n : Int)
        · by_cases g4 : (k : Int) < 10
          · have k3 : (0 : Int) ≤ (p : Int) := by omega
            have k4 : (p : Int) < (n : Int) := by omega
            have Hgo := Lib.hid (show goB zs p k = true by simp only [goB, Hq.out, hl.out, Bool.and_eq_true, decide_eq_true_eq]; omega)
            have Hop := Lib.hid (show unitV zs p = (zs[p]?.getD 0 == 1, tkAt zs (p + 2) q) by rw [unitV, Hq.out])
            have Hun2 := Lib.hid (show unitN zs p = p + 2 + 4 * q by rw [unitN, Hq.out])
            go_wp2_with fail
            have sz : (wr.alloc (.cells #[] 33)).heap.size = wr.heap.size + 1 := World.size_alloc _ _
            generalize (zs[p]?.getD 0 == 1) = op at Hop ⊢
            have T5 := Lib.hid (show ((wr.alloc (.cells #[] 33)).alloc (.cells #[.bool op, .slice (some ⟨wr.heap.size, 0, none⟩) 0 0] 52)).ownsRow wr.heap.size 33 2 (.slice (some ⟨wr.heap.size, 0, none⟩) 0 0) 0 [] from
              own_alloc (World.ownsRow_lit (base := wr.heap.size) (e := 33) (size := 2) wr #[] 0 (Nat.le_refl _) (by unfold maxLen; omega) rfl) _)
            have hU := Blk.new (wr.alloc (.cells #[] 33)) 52 #[.bool op, .slice (some ⟨wr.heap.size, 0, none⟩) 0 0]
            rw [sz] at hU
            have U5 := Lib.hid hU
            have B5 := Lib.hid (((Below.refl wr.heap.size wr).alloc (Nat.le_refl _) (.cells #[] 33)).alloc (by rw [sz]; omega) (.cells #[.bool op, .slice (some ⟨wr.heap.size, 0, none⟩) 0 0] 52))
            clear sz hU
            generalize (wr.alloc (.cells #[] 33)).alloc (.cells #[.bool op, .slice (some ⟨wr.heap.size, 0, none⟩) 0 0] 52) = wa at T5 U5 B5 ⊢
            obtain ⟨wo, rfl⟩ : ∃ wo, wo = wr := ⟨_, rfl⟩
            go_loopw [6] (fun i wr => ∃ (j : Nat) (At : Option Addr) (ct : Nat) (vt : List Value) (nd : Nat → Value), i = .int .i64 j ∧ j ≤ q ∧ Below wo.heap.size wo wr ∧ Blk wr (wo.heap.size + 1) 52 #[.bool op, .slice At j ct] ∧ wr.ownsRow wo.heap.size 33 2 (.slice At j ct) j vt ∧ NdTs wr wo.heap.size j vt nd (tkAt zs (p + 2) j)) (fun i _ => q - (intOf i).toNat)
            case atStart => exact ⟨0, _, 0, [], _, rfl, Nat.zero_le _, B5.out, U5.out, T5.out, NdTs.nil⟩
            case round =>
              clear T5 U5 B5 x0 x1 x2 x3 y0 y1
              obtain ⟨j, At, ct, vt, nd, rfl, hj, hbi, hui, hti, hni⟩ := hrel
              have Hbi := Lib.hid hbi
              have Hui := Lib.hid hui
              have Hti := Lib.hid hti
              have Hni := Lib.hid hni
              have lzi := hbi.size
              have u1 := hui.cell 1
              simp only [List.getElem?_toArray, List.getElem?_cons_zero, List.getElem?_cons_succ] at u1
              have hcpi : wr.cell? ⟨b, o + (p + 1), none⟩ = some (.int .i64 (q : Int)) := (hbi.cell (p := ⟨b, o + (p + 1), none⟩) (by show b < _; omega)).trans hcp
              clear hbi hui hti hni
              have kj : (0 : Int) ≤ (j : Int) := by omega
              by_cases hlt : (j : Int) < (q : Int)
              · obtain ⟨s, hs⟩ : ∃ s : Nat, s = p + 2 + 4 * j := ⟨_, rfl⟩
                have w5 : IntKind.i64.wrap (4 * (j : Int)) = 4 * (j : Int) := wr64 (by omega) (by omega)
                have w6 : IntKind.i64.wrap ((p : Int) + 2 + 4 * (j : Int)) = (p : Int) + 2 + 4 * (j : Int) := wr64 (by omega) (by omega)
                have w7 : IntKind.i64.wrap ((s : Int) + 1) = (s : Int) + 1 := wr64 (by omega) (by omega)
                have w8 : IntKind.i64.wrap ((s : Int) + 4) = (s : Int) + 4 := wr64 (by omega) (by omega)
                have ks1 : (0 : Int) ≤ (s : Int) := by omega
                have ks2 : (s : Int) < (n : Int) := by omega
                have ks3 : (0 : Int) ≤ (s : Int) + 1 := by omega
                have ks4 : (s : Int) + 1 ≤ (s : Int) + 4 := by omega
                have kc : ¬ c = s + 1 := by omega
                have ks5 : (s : Int) + 4 ≤ (c : Int) := by omega
                have hcs : wr.cell? ⟨b, o + s, none⟩ = some (.int .i64 (zs[s]?.getD 0)) := (Hbi.out.cell (p := ⟨b, o + s, none⟩) (by show b < _; omega)).trans (hcz s (by omega))
                have K0 : wr.drew.cell? ⟨b, o + s, none⟩ = some (.int .i64 (zs[s]?.getD 0)) := hcs
                have HB0 := Lib.hid (Hbi.out.drew)
                have HU0 := Lib.hid (Hui.out.drew)
                have HT0 := Lib.hid (World.ownsRow.drew Hti.out)
                have HN0 := Lib.hid (Hni.out.keepTI (KeepTI.drew wr))
                have HR0 := Lib.hid ((H.out.below Hbel.out).below (HB0.out.mono lz))
                have hlu : wo.heap.size + 1 < wr.drew.heap.size := Hui.out.lt
                have lzo : wo.heap.size ≤ wr.drew.heap.size := lzi
                clear u1 hcs
                go_wp2_with fail
                rw [show (p : Int) + 2 + 4 * (j : Int) = (s : Int) by omega]
                have hsn : s + 4 ≤ n := by omega
                have Hs := Lib.hid hs
                clear hs w6
                refine wp_region_mix (.take 0 (.take 2 (.take 3 (.take 4 (.take 5 (.take 7 (.take 8 (.take 9 (.take 10 (.take 11 (.take 12 (.fork 1 (.bar 6 (.bar 13 (.take 14 (.bar 15 (.bar 16 (.take 17 (.bar 18 .nil))))))) 6 (.fork 1 (.bar 13 (.take 14 (.bar 15 (.bar 16 (.take 17 (.bar 18 .nil)))))) 13 (.take 14 (.fork 1 (.bar 15 (.bar 16 (.take 17 (.bar 18 .nil)))) 15 (.bar 1 (.bar 16 (.take 17 (.bar 18 .nil))))))))))))))))))) (fun w' => w'.cell? ⟨b, o + s, none⟩ = some (.int .i64 (zs[s]?.getD 0))) (by kernel_rfl) (by kernel_rfl) K0 (fun _ => ?_)
                repeat (first | (refine wpMix_skip (by rfl) (by rfl) ?_; (try simp only [Act.put, List.setIfInBounds_toArray, List.set_cons_zero, List.set_cons_succ])) | (refine wpMix_take (v := ?_) (by rfl) (by rfl) (fun wS hSt => ?_) ?_; rotate_left; (focus ((try dsimp only at hSt); (go_simp <;> with_reducible rfl); done)); (try simp only [Act.put, List.setIfInBounds_toArray, List.set_cons_zero, List.set_cons_succ])))
                rw [show ((s : Int) + 4).toNat - (s + 1) = 3 by omega]
                generalize wr.drew = u0 at K0 HB0 HU0 HT0 HN0 HR0 hlu lzo ⊢
                have hS := Lib.hid (fun w' (hb : Below u0.heap.size u0 w') => ((hb.cell (p := ⟨b, o + s, none⟩) (by show b < _; omega)).trans K0 : w'.cell? ⟨b, o + s, none⟩ = some (.int .i64 (zs[s]?.getD 0))))
                have hUk := Lib.hid (fun w' (hb : Below u0.heap.size u0 w') => (HU0.out.below hb hlu).cell 1)
                refine wpMix_fork (by rfl) (by rfl) (fun K hK => ?_) (fun K hK => ?_)
                · have q1 : u0.cell? ⟨wo.heap.size + 1, 1, none⟩ = some (.slice At j ct) := hUk.out _ (Below.refl _ _)
                  go_simp
                  clear q1
                  ((try dsimp only); refine hK.out _ _ (hS.out _ (Below.refl _ _)) (fun hSw => ?_); (try clear hSw); clear hK K; (try simp only [Act.put, List.setIfInBounds_toArray, List.set_cons_zero, List.set_cons_succ]))
                  (refine wpMix_bar (by rfl) (fun K hK => ?_); go_simp)
                  have E1 := Lib.hid (show (u0.alloc (.cells #[] 3)).ownsRow u0.heap.size 3 1 (.slice (some ⟨u0.heap.size, 0, none⟩) 0 0) 0 [] from World.ownsRow_lit (base := u0.heap.size) (e := 3) (size := 1) u0 #[] 0 (Nat.le_refl _) (by unfold maxLen; omega) rfl)
                  have D1 := Lib.hid (alloc_up u0 (.cells #[] 3))
                  have S1 := Lib.hid (srcPart (HR0.out.below (D1.out.mono (show w.heap.size ≤ u0.heap.size by omega))) (i := s + 1) (m := 3) (by omega))
                  have N1 := Lib.hid (ints_cell1 ((zs.drop (s + 1)).take 3))
                  ((try dsimp only); refine hK.out _ _ (hS.out _ D1.out) (fun hSw => ?_); (try clear hSw); clear hK K; (try simp only [Act.put, List.setIfInBounds_toArray, List.set_cons_zero, List.set_cons_succ]))
                  generalize u0.alloc (.cells #[] 3) = u1 at E1 D1 S1 ⊢
                  refine wpMix_bar (by rfl) (fun K hK => ?_)
                  rw [if_pos (by rfl)]
                  refine wp_append_src _ _ _ 23 (by rfl) u0.heap.size 3 i0 _ 1 8 Tryz.underlying23 hi0 hz0 hz1 hz2 rfl (by omega) (.slice (some ⟨u0.heap.size, 0, none⟩) 0 0) 0 [] (by rfl) E1.out (some ⟨b, o + (s + 1), none⟩) 3 (c - (s + 1)) _ (by rfl) S1.out N1.out (by unfold maxLen; omega) (by omega) D1.out.size ?_
                  intro v6 u2 hown6 hgrow6 hrow6
                  rw [Nat.zero_add, List.nil_append] at hown6
                  obtain ⟨A6m, c6m, rfl⟩ := own_shape hown6
                  have D2 := Lib.hid (D1.out.grown hgrow6 D1.out.size (fun j e => (E1.out.lt j e).1))
                  have E2 := Lib.hid hown6
                  clear hown6 hgrow6 hrow6 S1 N1 E1 D1
                  ((try dsimp only); refine hK.out _ _ (hS.out _ D2.out) (fun hSw => ?_); (try clear hSw); clear hK K; (try simp only [Act.put, List.setIfInBounds_toArray, List.set_cons_zero, List.set_cons_succ]))
                  repeat (first | (refine wpMix_skip (by rfl) (by rfl) ?_; (try simp only [Act.put, List.setIfInBounds_toArray, List.set_cons_zero, List.set_cons_succ])) | (refine wpMix_take (v := ?_) (by rfl) (by rfl) (fun wS hSt => ?_) ?_; rotate_left; (focus ((try dsimp only at hSt); (go_simp <;> with_reducible rfl); done)); (try simp only [Act.put, List.setIfInBounds_toArray, List.set_cons_zero, List.set_cons_succ])))
                  have D3 := Lib.hid (D2.out.alloc D2.out.size (.cells #[.int .i64 (zs[s]?.getD 0), .slice A6m 3 c6m] 33))
                  have T3 := Lib.hid (own_alloc (own_up' HT0.out D2.out) (.cells #[.int .i64 (zs[s]?.getD 0), .slice A6m 3 c6m] 33))
                  have E3 := Lib.hid (own_alloc E2.out (.cells #[.int .i64 (zs[s]?.getD 0), .slice A6m 3 c6m] 33))
                  have X3 := Lib.hid (lit2 u2 33 (.int .i64 (zs[s]?.getD 0)) (.slice A6m 3 c6m))
                  (refine wpMix_bar (by rfl) (fun K hK => ?_); go_simp)
                  ((try dsimp only); refine hK.out _ _ (hS.out _ D3.out) (fun hSw => ?_); (try clear hSw); clear hK K; (try simp only [Act.put, List.setIfInBounds_toArray, List.set_cons_zero, List.set_cons_succ]))
                  clear D2 E2
                  generalize u2.heap.size = gx at X3 ⊢
                  generalize u2.alloc (.cells #[.int .i64 (zs[s]?.getD 0), .slice A6m 3 c6m] 33) = u3 at D3 T3 E3 X3 ⊢
                  have N3 := Lib.hid (HN0.out.keepTI (KeepTI.up D3.out))
                  have U3 := Lib.hid (HU0.out.below D3.out hlu)
                  have z3 := D3.out.size
                  refine wpMix_bar (by rfl) (fun K hK => ?_)
                  rw [if_pos (by rfl)]
                  refine wp_append_src _ _ _ 50 (by rfl) wo.heap.size 33 t0 _ 2 32 Tryz.underlying50 ht0 htz0 htz1 htz2 rfl (by omega) (.slice At j ct) j vt (by rfl) T3.out (some ⟨gx, 0, none⟩) 1 1 [.int .i64 (zs[s]?.getD 0), .slice A6m 3 c6m] (by rfl) X3.out (one2 _ _ rfl rfl) (by unfold maxLen; omega) (by omega) (by omega) ?_
                  intro v6 u4 hown6 hgrow6 hrow6
                  obtain ⟨A9, c9, rfl⟩ := own_shape hown6
                  have D4 := Lib.hid ((HB0.out.trans (D3.out.mono lzo)).grown hgrow6 (by omega) (fun j e => (T3.out.lt j e).1))
                  have T4 := Lib.hid hown6
                  have E4 := Lib.hid (own_keep E3.out (fun b hb => hgrow6.block b (E3.out.lt b hb).2 (fun e => own_types T3.out E3.out (by decide) e.symm hb)))
                  have N4 := Lib.hid (N3.out.grown T3.out hgrow6)
                  have U4 := Lib.hid (U3.out.grown hgrow6 (fun e => own_blk_ne T3.out U3.out (by decide) e.symm))
                  have L4 := Lib.hid (T3.out.1)
                  have K4 : u4.cell? ⟨b, o + s, none⟩ = some (.int .i64 (zs[s]?.getD 0)) := (hgrow6.cell (a := ⟨b, o + s, none⟩) (hS.out _ D3.out) (fun e => by have := (T3.out.lt b e.symm).1; omega))
                  have F4 := U4.out.frozen 1
                  have F5 := U4.out.cell 1
                  simp only [List.getElem?_toArray, List.getElem?_cons_zero, List.getElem?_cons_succ] at F5
                  clear hown6 hgrow6 hrow6 T3 E3 X3 N3 U3 D3
                  ((try dsimp only); refine hK.out _ _ (K4) (fun hSw => ?_); (try clear hSw); clear hK K; (try simp only [Act.put, List.setIfInBounds_toArray, List.set_cons_zero, List.set_cons_succ]))
                  repeat (first | (refine wpMix_skip (by rfl) (by rfl) ?_; (try simp only [Act.put, List.setIfInBounds_toArray, List.set_cons_zero, List.set_cons_succ])) | (refine wpMix_take (v := ?_) (by rfl) (by rfl) (fun wS hSt => ?_) ?_; rotate_left; (focus ((try dsimp only at hSt); (go_simp <;> with_reducible rfl); done)); (try simp only [Act.put, List.setIfInBounds_toArray, List.set_cons_zero, List.set_cons_succ])))
                  (refine wpMix_bar (by rfl) (fun K hK => ?_); go_simp)
                  have KT := KeepTI.set_ U4.out (by decide) (by decide) 1 (.slice A9 (j + 1) c9)
                  have U5 := Lib.hid (show Blk (u4.setCell ⟨wo.heap.size + 1, 1, none⟩ (.slice A9 (j + 1) c9)) (wo.heap.size + 1) 52 #[.bool op, .slice A9 (j + 1) c9] from U4.out.set_ 1 (.slice A9 (j + 1) c9))
                  have T5 := Lib.hid (own_keepTI T4.out (.inr rfl) KT)
                  have hsc := N4.out.snoc (w0 := u0) (id := zs[s]?.getD 0) (xs := (zs.drop (s + 1)).take 3) (by have := L4.out; omega) (fun i hi b hb => HN0.out.old i hi b hb) E4.out lzo
                  have N5 := Lib.hid (hsc.keepTI KT)
                  have B5 := Lib.hid (D4.out.setCell (p := ⟨wo.heap.size + 1, 1, none⟩) (by simp) (.slice A9 (j + 1) c9))
                  have K5 : (u4.setCell ⟨wo.heap.size + 1, 1, none⟩ (.slice A9 (j + 1) c9)).cell? ⟨b, o + s, none⟩ = some (.int .i64 (zs[s]?.getD 0)) := (World.cell?_of_block (Below.heap_setCell u4 _ _ b (by simp; omega))).trans K4
                  clear KT hsc T4 N4 U4 D4 E4 F4 F5 L4
                  ((try dsimp only); refine hK.out _ _ (K5) (fun hSw => ?_); (try clear hSw); clear hK K; (try simp only [Act.put, List.setIfInBounds_toArray, List.set_cons_zero, List.set_cons_succ]))
                  clear K4 K5
                  generalize u4.setCell ⟨wo.heap.size + 1, 1, none⟩ (.slice A9 (j + 1) c9) = u5 at U5 T5 N5 B5 ⊢
                  refine wpMix_nil ?_
                  go_wp2_with fail
                  go_roundw
                  case measure => simp [intOf]; omega
                  case rel => exact ⟨j + 1, A9, c9, _, _, by go_num, by omega, B5.out, U5.out, T5.out, by rw [tkAt_snoc, ← Hs.out]; exact N5.out⟩
                · go_simp
                  have E1 := Lib.hid (show (u0.alloc (.cells #[] 3)).ownsRow u0.heap.size 3 1 (.slice (some ⟨u0.heap.size, 0, none⟩) 0 0) 0 [] from World.ownsRow_lit (base := u0.heap.size) (e := 3) (size := 1) u0 #[] 0 (Nat.le_refl _) (by unfold maxLen; omega) rfl)
                  have D1 := Lib.hid (alloc_up u0 (.cells #[] 3))
                  have S1 := Lib.hid (srcPart (HR0.out.below (D1.out.mono (show w.heap.size ≤ u0.heap.size by omega))) (i := s + 1) (m := 3) (by omega))
                  have N1 := Lib.hid (ints_cell1 ((zs.drop (s + 1)).take 3))
                  ((try dsimp only); refine hK.out _ _ (hS.out _ D1.out) (fun hSw => ?_); (try clear hSw); clear hK K; (try simp only [Act.put, List.setIfInBounds_toArray, List.set_cons_zero, List.set_cons_succ]))
                  generalize u0.alloc (.cells #[] 3) = u1 at E1 D1 S1 ⊢
                  refine wpMix_fork (by rfl) (by rfl) (fun K hK => ?_) (fun K hK => ?_)
                  · have q1 : u1.cell? ⟨wo.heap.size + 1, 1, none⟩ = some (.slice At j ct) := hUk.out _ D1.out
                    go_simp
                    clear q1
                    ((try dsimp only); refine hK.out _ _ (hS.out _ D1.out) (fun hSw => ?_); (try clear hSw); clear hK K; (try simp only [Act.put, List.setIfInBounds_toArray, List.set_cons_zero, List.set_cons_succ]))
                    refine wpMix_bar (by rfl) (fun K hK => ?_)
                    rw [if_pos (by rfl)]
                    refine wp_append_src _ _ _ 23 (by rfl) u0.heap.size 3 i0 _ 1 8 Tryz.underlying23 hi0 hz0 hz1 hz2 rfl (by omega) (.slice (some ⟨u0.heap.size, 0, none⟩) 0 0) 0 [] (by rfl) E1.out (some ⟨b, o + (s + 1), none⟩) 3 (c - (s + 1)) _ (by rfl) S1.out N1.out (by unfold maxLen; omega) (by omega) D1.out.size ?_
                    intro v6 u2 hown6 hgrow6 hrow6
                    rw [Nat.zero_add, List.nil_append] at hown6
                    obtain ⟨A6m, c6m, rfl⟩ := own_shape hown6
                    have D2 := Lib.hid (D1.out.grown hgrow6 D1.out.size (fun j e => (E1.out.lt j e).1))
                    have E2 := Lib.hid hown6
                    clear hown6 hgrow6 hrow6 S1 N1 E1 D1
                    ((try dsimp only); refine hK.out _ _ (hS.out _ D2.out) (fun hSw => ?_); (try clear hSw); clear hK K; (try simp only [Act.put, List.setIfInBounds_toArray, List.set_cons_zero, List.set_cons_succ]))
                    repeat (first | (refine wpMix_skip (by rfl) (by rfl) ?_; (try simp only [Act.put, List.setIfInBounds_toArray, List.set_cons_zero, List.set_cons_succ])) | (refine wpMix_take (v := ?_) (by rfl) (by rfl) (fun wS hSt => ?_) ?_; rotate_left; (focus ((try dsimp only at hSt); (go_simp <;> with_reducible rfl); done)); (try simp only [Act.put, List.setIfInBounds_toArray, List.set_cons_zero, List.set_cons_succ])))
                    have D3 := Lib.hid (D2.out.alloc D2.out.size (.cells #[.int .i64 (zs[s]?.getD 0), .slice A6m 3 c6m] 33))
                    have T3 := Lib.hid (own_alloc (own_up' HT0.out D2.out) (.cells #[.int .i64 (zs[s]?.getD 0), .slice A6m 3 c6m] 33))
                    have E3 := Lib.hid (own_alloc E2.out (.cells #[.int .i64 (zs[s]?.getD 0), .slice A6m 3 c6m] 33))
                    have X3 := Lib.hid (lit2 u2 33 (.int .i64 (zs[s]?.getD 0)) (.slice A6m 3 c6m))
                    (refine wpMix_bar (by rfl) (fun K hK => ?_); go_simp)
                    ((try dsimp only); refine hK.out _ _ (hS.out _ D3.out) (fun hSw => ?_); (try clear hSw); clear hK K; (try simp only [Act.put, List.setIfInBounds_toArray, List.set_cons_zero, List.set_cons_succ]))
                    clear D2 E2
                    generalize u2.heap.size = gx at X3 ⊢
                    generalize u2.alloc (.cells #[.int .i64 (zs[s]?.getD 0), .slice A6m 3 c6m] 33) = u3 at D3 T3 E3 X3 ⊢
                    have N3 := Lib.hid (HN0.out.keepTI (KeepTI.up D3.out))
                    have U3 := Lib.hid (HU0.out.below D3.out hlu)
                    have z3 := D3.out.size
                    refine wpMix_bar (by rfl) (fun K hK => ?_)
                    rw [if_pos (by rfl)]
                    refine wp_append_src _ _ _ 50 (by rfl) wo.heap.size 33 t0 _ 2 32 Tryz.underlying50 ht0 htz0 htz1 htz2 rfl (by omega) (.slice At j ct) j vt (by rfl) T3.out (some ⟨gx, 0, none⟩) 1 1 [.int .i64 (zs[s]?.getD 0), .slice A6m 3 c6m] (by rfl) X3.out (one2 _ _ rfl rfl) (by unfold maxLen; omega) (by omega) (by omega) ?_
                    intro v6 u4 hown6 hgrow6 hrow6
                    obtain ⟨A9, c9, rfl⟩ := own_shape hown6
                    have D4 := Lib.hid ((HB0.out.trans (D3.out.mono lzo)).grown hgrow6 (by omega) (fun j e => (T3.out.lt j e).1))
                    have T4 := Lib.hid hown6
                    have E4 := Lib.hid (own_keep E3.out (fun b hb => hgrow6.block b (E3.out.lt b hb).2 (fun e => own_types T3.out E3.out (by decide) e.symm hb)))
                    have N4 := Lib.hid (N3.out.grown T3.out hgrow6)
                    have U4 := Lib.hid (U3.out.grown hgrow6 (fun e => own_blk_ne T3.out U3.out (by decide) e.symm))
                    have L4 := Lib.hid (T3.out.1)
                    have K4 : u4.cell? ⟨b, o + s, none⟩ = some (.int .i64 (zs[s]?.getD 0)) := (hgrow6.cell (a := ⟨b, o + s, none⟩) (hS.out _ D3.out) (fun e => by have := (T3.out.lt b e.symm).1; omega))
                    have F4 := U4.out.frozen 1
                    have F5 := U4.out.cell 1
                    simp only [List.getElem?_toArray, List.getElem?_cons_zero, List.getElem?_cons_succ] at F5
                    clear hown6 hgrow6 hrow6 T3 E3 X3 N3 U3 D3
                    ((try dsimp only); refine hK.out _ _ (K4) (fun hSw => ?_); (try clear hSw); clear hK K; (try simp only [Act.put, List.setIfInBounds_toArray, List.set_cons_zero, List.set_cons_succ]))
                    repeat (first | (refine wpMix_skip (by rfl) (by rfl) ?_; (try simp only [Act.put, List.setIfInBounds_toArray, List.set_cons_zero, List.set_cons_succ])) | (refine wpMix_take (v := ?_) (by rfl) (by rfl) (fun wS hSt => ?_) ?_; rotate_left; (focus ((try dsimp only at hSt); (go_simp <;> with_reducible rfl); done)); (try simp only [Act.put, List.setIfInBounds_toArray, List.set_cons_zero, List.set_cons_succ])))
                    (refine wpMix_bar (by rfl) (fun K hK => ?_); go_simp)
                    have KT := KeepTI.set_ U4.out (by decide) (by decide) 1 (.slice A9 (j + 1) c9)
                    have U5 := Lib.hid (show Blk (u4.setCell ⟨wo.heap.size + 1, 1, none⟩ (.slice A9 (j + 1) c9)) (wo.heap.size + 1) 52 #[.bool op, .slice A9 (j + 1) c9] from U4.out.set_ 1 (.slice A9 (j + 1) c9))
                    have T5 := Lib.hid (own_keepTI T4.out (.inr rfl) KT)
                    have hsc := N4.out.snoc (w0 := u0) (id := zs[s]?.getD 0) (xs := (zs.drop (s + 1)).take 3) (by have := L4.out; omega) (fun i hi b hb => HN0.out.old i hi b hb) E4.out lzo
                    have N5 := Lib.hid (hsc.keepTI KT)
                    have B5 := Lib.hid (D4.out.setCell (p := ⟨wo.heap.size + 1, 1, none⟩) (by simp) (.slice A9 (j + 1) c9))
                    have K5 : (u4.setCell ⟨wo.heap.size + 1, 1, none⟩ (.slice A9 (j + 1) c9)).cell? ⟨b, o + s, none⟩ = some (.int .i64 (zs[s]?.getD 0)) := (World.cell?_of_block (Below.heap_setCell u4 _ _ b (by simp; omega))).trans K4
                    clear KT hsc T4 N4 U4 D4 E4 F4 F5 L4
                    ((try dsimp only); refine hK.out _ _ (K5) (fun hSw => ?_); (try clear hSw); clear hK K; (try simp only [Act.put, List.setIfInBounds_toArray, List.set_cons_zero, List.set_cons_succ]))
                    clear K4 K5
                    generalize u4.setCell ⟨wo.heap.size + 1, 1, none⟩ (.slice A9 (j + 1) c9) = u5 at U5 T5 N5 B5 ⊢
                    refine wpMix_nil ?_
                    go_wp2_with fail
                    go_roundw
                    case measure => simp [intOf]; omega
                    case rel => exact ⟨j + 1, A9, c9, _, _, by go_num, by omega, B5.out, U5.out, T5.out, by rw [tkAt_snoc, ← Hs.out]; exact N5.out⟩
                  · rw [if_pos (by rfl)]
                    refine wp_append_src _ _ _ 23 (by rfl) u0.heap.size 3 i0 _ 1 8 Tryz.underlying23 hi0 hz0 hz1 hz2 rfl (by omega) (.slice (some ⟨u0.heap.size, 0, none⟩) 0 0) 0 [] (by rfl) E1.out (some ⟨b, o + (s + 1), none⟩) 3 (c - (s + 1)) _ (by rfl) S1.out N1.out (by unfold maxLen; omega) (by omega) D1.out.size ?_
                    intro v6 u2 hown6 hgrow6 hrow6
                    rw [Nat.zero_add, List.nil_append] at hown6
                    obtain ⟨A6m, c6m, rfl⟩ := own_shape hown6
                    have D2 := Lib.hid (D1.out.grown hgrow6 D1.out.size (fun j e => (E1.out.lt j e).1))
                    have E2 := Lib.hid hown6
                    clear hown6 hgrow6 hrow6 S1 N1 E1 D1
                    ((try dsimp only); refine hK.out _ _ (hS.out _ D2.out) (fun hSw => ?_); (try clear hSw); clear hK K; (try simp only [Act.put, List.setIfInBounds_toArray, List.set_cons_zero, List.set_cons_succ]))
                    repeat (first | (refine wpMix_skip (by rfl) (by rfl) ?_; (try simp only [Act.put, List.setIfInBounds_toArray, List.set_cons_zero, List.set_cons_succ])) | (refine wpMix_take (v := ?_) (by rfl) (by rfl) (fun wS hSt => ?_) ?_; rotate_left; (focus ((try dsimp only at hSt); (go_simp <;> with_reducible rfl); done)); (try simp only [Act.put, List.setIfInBounds_toArray, List.set_cons_zero, List.set_cons_succ])))
                    refine wpMix_fork (by rfl) (by rfl) (fun K hK => ?_) (fun K hK => ?_)
                    · have q1 : u2.cell? ⟨wo.heap.size + 1, 1, none⟩ = some (.slice At j ct) := hUk.out _ D2.out
                      go_simp
                      clear q1
                      ((try dsimp only); refine hK.out _ _ (hS.out _ D2.out) (fun hSw => ?_); (try clear hSw); clear hK K; (try simp only [Act.put, List.setIfInBounds_toArray, List.set_cons_zero, List.set_cons_succ]))
                      have D3 := Lib.hid (D2.out.alloc D2.out.size (.cells #[.int .i64 (zs[s]?.getD 0), .slice A6m 3 c6m] 33))
                      have T3 := Lib.hid (own_alloc (own_up' HT0.out D2.out) (.cells #[.int .i64 (zs[s]?.getD 0), .slice A6m 3 c6m] 33))
                      have E3 := Lib.hid (own_alloc E2.out (.cells #[.int .i64 (zs[s]?.getD 0), .slice A6m 3 c6m] 33))
                      have X3 := Lib.hid (lit2 u2 33 (.int .i64 (zs[s]?.getD 0)) (.slice A6m 3 c6m))
                      (refine wpMix_bar (by rfl) (fun K hK => ?_); go_simp)
                      ((try dsimp only); refine hK.out _ _ (hS.out _ D3.out) (fun hSw => ?_); (try clear hSw); clear hK K; (try simp only [Act.put, List.setIfInBounds_toArray, List.set_cons_zero, List.set_cons_succ]))
                      clear D2 E2
                      generalize u2.heap.size = gx at X3 ⊢
                      generalize u2.alloc (.cells #[.int .i64 (zs[s]?.getD 0), .slice A6m 3 c6m] 33) = u3 at D3 T3 E3 X3 ⊢
                      have N3 := Lib.hid (HN0.out.keepTI (KeepTI.up D3.out))
                      have U3 := Lib.hid (HU0.out.below D3.out hlu)
                      have z3 := D3.out.size
                      refine wpMix_bar (by rfl) (fun K hK => ?_)
                      rw [if_pos (by rfl)]
                      refine wp_append_src _ _ _ 50 (by rfl) wo.heap.size 33 t0 _ 2 32 Tryz.underlying50 ht0 htz0 htz1 htz2 rfl (by omega) (.slice At j ct) j vt (by rfl) T3.out (some ⟨gx, 0, none⟩) 1 1 [.int .i64 (zs[s]?.getD 0), .slice A6m 3 c6m] (by rfl) X3.out (one2 _ _ rfl rfl) (by unfold maxLen; omega) (by omega) (by omega) ?_
                      intro v6 u4 hown6 hgrow6 hrow6
                      obtain ⟨A9, c9, rfl⟩ := own_shape hown6
                      have D4 := Lib.hid ((HB0.out.trans (D3.out.mono lzo)).grown hgrow6 (by omega) (fun j e => (T3.out.lt j e).1))
                      have T4 := Lib.hid hown6
                      have E4 := Lib.hid (own_keep E3.out (fun b hb => hgrow6.block b (E3.out.lt b hb).2 (fun e => own_types T3.out E3.out (by decide) e.symm hb)))
                      have N4 := Lib.hid (N3.out.grown T3.out hgrow6)
                      have U4 := Lib.hid (U3.out.grown hgrow6 (fun e => own_blk_ne T3.out U3.out (by decide) e.symm))
                      have L4 := Lib.hid (T3.out.1)
                      have K4 : u4.cell? ⟨b, o + s, none⟩ = some (.int .i64 (zs[s]?.getD 0)) := (hgrow6.cell (a := ⟨b, o + s, none⟩) (hS.out _ D3.out) (fun e => by have := (T3.out.lt b e.symm).1; omega))
                      have F4 := U4.out.frozen 1
                      have F5 := U4.out.cell 1
                      simp only [List.getElem?_toArray, List.getElem?_cons_zero, List.getElem?_cons_succ] at F5
                      clear hown6 hgrow6 hrow6 T3 E3 X3 N3 U3 D3
                      ((try dsimp only); refine hK.out _ _ (K4) (fun hSw => ?_); (try clear hSw); clear hK K; (try simp only [Act.put, List.setIfInBounds_toArray, List.set_cons_zero, List.set_cons_succ]))
                      repeat (first | (refine wpMix_skip (by rfl) (by rfl) ?_; (try simp only [Act.put, List.setIfInBounds_toArray, List.set_cons_zero, List.set_cons_succ])) | (refine wpMix_take (v := ?_) (by rfl) (by rfl) (fun wS hSt => ?_) ?_; rotate_left; (focus ((try dsimp only at hSt); (go_simp <;> with_reducible rfl); done)); (try simp only [Act.put, List.setIfInBounds_toArray, List.set_cons_zero, List.set_cons_succ])))
                      (refine wpMix_bar (by rfl) (fun K hK => ?_); go_simp)
                      have KT := KeepTI.set_ U4.out (by decide) (by decide) 1 (.slice A9 (j + 1) c9)
                      have U5 := Lib.hid (show Blk (u4.setCell ⟨wo.heap.size + 1, 1, none⟩ (.slice A9 (j + 1) c9)) (wo.heap.size + 1) 52 #[.bool op, .slice A9 (j + 1) c9] from U4.out.set_ 1 (.slice A9 (j + 1) c9))
                      have T5 := Lib.hid (own_keepTI T4.out (.inr rfl) KT)
                      have hsc := N4.out.snoc (w0 := u0) (id := zs[s]?.getD 0) (xs := (zs.drop (s + 1)).take 3) (by have := L4.out; omega) (fun i hi b hb => HN0.out.old i hi b hb) E4.out lzo
                      have N5 := Lib.hid (hsc.keepTI KT)
                      have B5 := Lib.hid (D4.out.setCell (p := ⟨wo.heap.size + 1, 1, none⟩) (by simp) (.slice A9 (j + 1) c9))
                      have K5 : (u4.setCell ⟨wo.heap.size + 1, 1, none⟩ (.slice A9 (j + 1) c9)).cell? ⟨b, o + s, none⟩ = some (.int .i64 (zs[s]?.getD 0)) := (World.cell?_of_block (Below.heap_setCell u4 _ _ b (by simp; omega))).trans K4
                      clear KT hsc T4 N4 U4 D4 E4 F4 F5 L4
                      ((try dsimp only); refine hK.out _ _ (K5) (fun hSw => ?_); (try clear hSw); clear hK K; (try simp only [Act.put, List.setIfInBounds_toArray, List.set_cons_zero, List.set_cons_succ]))
                      clear K4 K5
                      generalize u4.setCell ⟨wo.heap.size + 1, 1, none⟩ (.slice A9 (j + 1) c9) = u5 at U5 T5 N5 B5 ⊢
                      refine wpMix_nil ?_
                      go_wp2_with fail
                      go_roundw
                      case measure => simp [intOf]; omega
                      case rel => exact ⟨j + 1, A9, c9, _, _, by go_num, by omega, B5.out, U5.out, T5.out, by rw [tkAt_snoc, ← Hs.out]; exact N5.out⟩
                    · have D3 := Lib.hid (D2.out.alloc D2.out.size (.cells #[.int .i64 (zs[s]?.getD 0), .slice A6m 3 c6m] 33))
                      have T3 := Lib.hid (own_alloc (own_up' HT0.out D2.out) (.cells #[.int .i64 (zs[s]?.getD 0), .slice A6m 3 c6m] 33))
                      have E3 := Lib.hid (own_alloc E2.out (.cells #[.int .i64 (zs[s]?.getD 0), .slice A6m 3 c6m] 33))
                      have X3 := Lib.hid (lit2 u2 33 (.int .i64 (zs[s]?.getD 0)) (.slice A6m 3 c6m))
                      go_simp
                      ((try dsimp only); refine hK.out _ _ (hS.out _ D3.out) (fun hSw => ?_); (try clear hSw); clear hK K; (try simp only [Act.put, List.setIfInBounds_toArray, List.set_cons_zero, List.set_cons_succ]))
                      clear D2 E2
                      generalize u2.heap.size = gx at X3 ⊢
                      generalize u2.alloc (.cells #[.int .i64 (zs[s]?.getD 0), .slice A6m 3 c6m] 33) = u3 at D3 T3 E3 X3 ⊢
                      have q1 : u3.cell? ⟨wo.heap.size + 1, 1, none⟩ = some (.slice At j ct) := hUk.out _ D3.out
                      (refine wpMix_bar (by rfl) (fun K hK => ?_); go_simp)
                      clear q1
                      ((try dsimp only); refine hK.out _ _ (hS.out _ D3.out) (fun hSw => ?_); (try clear hSw); clear hK K; (try simp only [Act.put, List.setIfInBounds_toArray, List.set_cons_zero, List.set_cons_succ]))
                      have N3 := Lib.hid (HN0.out.keepTI (KeepTI.up D3.out))
                      have U3 := Lib.hid (HU0.out.below D3.out hlu)
                      have z3 := D3.out.size
                      refine wpMix_bar (by rfl) (fun K hK => ?_)
                      rw [if_pos (by rfl)]
                      refine wp_append_src _ _ _ 50 (by rfl) wo.heap.size 33 t0 _ 2 32 Tryz.underlying50 ht0 htz0 htz1 htz2 rfl (by omega) (.slice At j ct) j vt (by rfl) T3.out (some ⟨gx, 0, none⟩) 1 1 [.int .i64 (zs[s]?.getD 0), .slice A6m 3 c6m] (by rfl) X3.out (one2 _ _ rfl rfl) (by unfold maxLen; omega) (by omega) (by omega) ?_
                      intro v6 u4 hown6 hgrow6 hrow6
                      obtain ⟨A9, c9, rfl⟩ := own_shape hown6
                      have D4 := Lib.hid ((HB0.out.trans (D3.out.mono lzo)).grown hgrow6 (by omega) (fun j e => (T3.out.lt j e).1))
                      have T4 := Lib.hid hown6
                      have E4 := Lib.hid (own_keep E3.out (fun b hb => hgrow6.block b (E3.out.lt b hb).2 (fun e => own_types T3.out E3.out (by decide) e.symm hb)))
                      have N4 := Lib.hid (N3.out.grown T3.out hgrow6)
                      have U4 := Lib.hid (U3.out.grown hgrow6 (fun e => own_blk_ne T3.out U3.out (by decide) e.symm))
                      have L4 := Lib.hid (T3.out.1)
                      have K4 : u4.cell? ⟨b, o + s, none⟩ = some (.int .i64 (zs[s]?.getD 0)) := (hgrow6.cell (a := ⟨b, o + s, none⟩) (hS.out _ D3.out) (fun e => by have := (T3.out.lt b e.symm).1; omega))
                      have F4 := U4.out.frozen 1
                      have F5 := U4.out.cell 1
                      simp only [List.getElem?_toArray, List.getElem?_cons_zero, List.getElem?_cons_succ] at F5
                      clear hown6 hgrow6 hrow6 T3 E3 X3 N3 U3 D3
                      ((try dsimp only); refine hK.out _ _ (K4) (fun hSw => ?_); (try clear hSw); clear hK K; (try simp only [Act.put, List.setIfInBounds_toArray, List.set_cons_zero, List.set_cons_succ]))
                      repeat (first | (refine wpMix_skip (by rfl) (by rfl) ?_; (try simp only [Act.put, List.setIfInBounds_toArray, List.set_cons_zero, List.set_cons_succ])) | (refine wpMix_take (v := ?_) (by rfl) (by rfl) (fun wS hSt => ?_) ?_; rotate_left; (focus ((try dsimp only at hSt); (go_simp <;> with_reducible rfl); done)); (try simp only [Act.put, List.setIfInBounds_toArray, List.set_cons_zero, List.set_cons_succ])))
                      (refine wpMix_bar (by rfl) (fun K hK => ?_); go_simp)
                      have KT := KeepTI.set_ U4.out (by decide) (by decide) 1 (.slice A9 (j + 1) c9)
                      have U5 := Lib.hid (show Blk (u4.setCell ⟨wo.heap.size + 1, 1, none⟩ (.slice A9 (j + 1) c9)) (wo.heap.size + 1) 52 #[.bool op, .slice A9 (j + 1) c9] from U4.out.set_ 1 (.slice A9 (j + 1) c9))
                      have T5 := Lib.hid (own_keepTI T4.out (.inr rfl) KT)
                      have hsc := N4.out.snoc (w0 := u0) (id := zs[s]?.getD 0) (xs := (zs.drop (s + 1)).take 3) (by have := L4.out; omega) (fun i hi b hb => HN0.out.old i hi b hb) E4.out lzo
                      have N5 := Lib.hid (hsc.keepTI KT)
                      have B5 := Lib.hid (D4.out.setCell (p := ⟨wo.heap.size + 1, 1, none⟩) (by simp) (.slice A9 (j + 1) c9))
                      have K5 : (u4.setCell ⟨wo.heap.size + 1, 1, none⟩ (.slice A9 (j + 1) c9)).cell? ⟨b, o + s, none⟩ = some (.int .i64 (zs[s]?.getD 0)) := (World.cell?_of_block (Below.heap_setCell u4 _ _ b (by simp; omega))).trans K4
                      clear KT hsc T4 N4 U4 D4 E4 F4 F5 L4
                      ((try dsimp only); refine hK.out _ _ (K5) (fun hSw => ?_); (try clear hSw); clear hK K; (try simp only [Act.put, List.setIfInBounds_toArray, List.set_cons_zero, List.set_cons_succ]))
                      clear K4 K5
                      generalize u4.setCell ⟨wo.heap.size + 1, 1, none⟩ (.slice A9 (j + 1) c9) = u5 at U5 T5 N5 B5 ⊢
                      refine wpMix_nil ?_
                      go_wp2_with fail
                      go_roundw
                      case measure => simp [intOf]; omega
                      case rel => exact ⟨j + 1, A9, c9, _, _, by go_num, by omega, B5.out, U5.out, T5.out, by rw [tkAt_snoc, ← Hs.out]; exact N5.out⟩
              · obtain rfl : q = j := by omega
                have Cl2 := Hcl.out.below Hbi.out Hcl.out.lt
                have Un2 := own_up' Hun.out Hbi.out
                have Be2 := Hbel.out.trans (Hbi.out.mono lz)
                have Own7 := Lib.hid (own_alloc Un2 (.cells #[.bool op, .slice At q ct] 52))
                have X7 := Lib.hid (lit2 wr 52 (.bool op) (.slice At q ct))
                have HBe2 := Lib.hid Be2
                have HCl2 := Lib.hid Cl2
                have HBk2 := Lib.hid (Hblk.out.below Hbi.out Hblk.out.lt)
                have lz6 : md ≤ wr.heap.size := by have := Cl2.lt; omega
                have lz7 : md ≤ (wr.alloc (.cells #[.bool op, .slice At q ct] 52)).heap.size := by rw [World.size_alloc]; omega
                have y1 := Cl2.cell 1
                have u2 := Hui.out.cell 0
                simp only [List.getElem?_toArray, List.getElem?_cons_zero, List.getElem?_cons_succ] at y1 u2
                clear Cl2 Un2 Be2
                go_wp2_with (at_builtin; refine wpList_append_src _ rfl _ _ 24 rfl md 52 ui0 _ 2 32 Tryz.underlying24 hu0 huz0 huz1 huz2 rfl (by omega) (.slice A6 k c6) k vs rfl Own7.out (some ⟨wr.heap.size, 0, none⟩) 1 1 [.bool op, .slice At q ct] rfl X7.out (one2 _ _ rfl rfl) (by unfold maxLen; omega) (by omega) lz7 ?_; intro v' w8 hown8 hgrow8 hat8; obtain ⟨A8, c8, rfl⟩ := own_shape hown8; have HG8 := Lib.hid hgrow8; have Cl8 := Lib.hid ((HCl2.out.alloc (.cells #[.bool op, .slice At q ct] 52)).grown hgrow8 (fun e => own_blk_ne Own7.out (HCl2.out.alloc _) (by decide) e.symm)); have y8 := Cl8.out.cell 1; simp only [List.getElem?_toArray, List.getElem?_cons_zero, List.getElem?_cons_succ] at y8; have f8 := Cl8.out.frozen 1; have Own8 := Lib.hid hown8; clear hown8 hat8 hgrow8)
                have KT := Lib.hid (((KeepTI.up (alloc_up wr (.cells #[.bool op, .slice At q ct] 52))).trans (KeepTI.grown Own7.out HG8.out (by decide) (by decide))).trans (KeepTI.set_ Cl8.out (by decide) (by decide) 1 (.slice A8 (k + 1) c8)))
                have Bk9 := Lib.hid (((HBk2.out.alloc (.cells #[.bool op, .slice At q ct] 52)).grown HG8.out (fun e => own_blk_ne Own7.out (HBk2.out.alloc _) (by decide) e.symm)).far (p := ⟨md + 1, 1, none⟩) (by show w.heap.size ≠ md + 1; omega) (.slice A8 (k + 1) c8))
                have Cl9 := Lib.hid (show Blk (w8.setCell ⟨md + 1, 1, none⟩ (.slice A8 (k + 1) c8)) (md + 1) 26 #[.slice A4 3 c4, .slice A8 (k + 1) c8] from Cl8.out.set_ 1 (.slice A8 (k + 1) c8))
                have Un9 := Lib.hid (own_keep Own8.out (w' := w8.setCell ⟨md + 1, 1, none⟩ (.slice A8 (k + 1) c8)) (fun b hb => Below.heap_setCell _ _ _ _ (fun e => own_blk_ne Own8.out Cl8.out (by decide) (by rw [hb, e]))))
                have Be9 := Lib.hid (((HBe2.out.alloc HBe2.out.size (.cells #[.bool op, .slice At q ct] 52)).grown HG8.out (by rw [World.size_alloc]; have := HBe2.out.size; omega) (fun j e => by have := (Own7.out.lt j e).1; omega)).setCell (p := ⟨md + 1, 1, none⟩) (by show w.heap.size ≤ md + 1; omega) (.slice A8 (k + 1) c8))
                have sz9 : wr.heap.size ≤ (w8.setCell ⟨md + 1, 1, none⟩ (.slice A8 (k + 1) c8)).heap.size := by have := HG8.out.size; rw [World.size_alloc] at this; simp [World.setCell]; omega
                have hx := ((OwnTs.toB (show OwnTs wr wo.heap.size (.slice At q ct) q (tkAt zs (p + 2) q) from ⟨vt, nd, Hti.out, Hni.out⟩)).wide Hfk.out (Nat.le_refl _)).keep (fun b _ _ hb => KT.out b hb)
                have hns := ((Hnd.out.keepTI (KeepTI.up Hbi.out)).keepTI KT.out).snoc (op := op) (by have := Hun.out.1; omega) hx (Nat.le_trans Hfk.out lzi)
                have Nd9 := Lib.hid hns
                have Rm9 := Lib.hid (own_keepTI (own_up' Hrm.out Hbi.out) (.inl rfl) KT.out)
                obtain ⟨F, rfl⟩ : ∃ G, F = G + 1 := ⟨F - 1, by omega⟩
                have HR9 := Lib.hid (show R = (us ++ [unitV zs p]) ++ unitsS zs F (p + 2 + 4 * q) (k + 1) by rw [HR2.out, unitsS, if_pos Hgo.out, Hun2.out, List.append_assoc]; rfl)
                rw [Hop.out] at HR9
                clear hx hns y1 u2 y8 f8
                go_roundw
                case measure => simp [intOf]; omega
                case rel => exact ⟨p + 2 + 4 * q, k + 1, F, A8, c8, _, _, _, _, by go_num, by omega, by omega, by omega, Be9.out, Bk9.out, Cl9.out, Rm9.out, Un9.out, Nd9.out, by show md ≤ (if 0 = k + 1 then _ else f 0); rw [if_neg (by omega)]; exact Hmd.out, by show (if k + 1 = k + 1 then wr.heap.size else _) ≤ _; rw [if_pos rfl]; exact sz9, HR9.out⟩
          · have hno : goB zs p k = false := by
              rw [← Bool.not_eq_true]; intro hh; simp only [goB, Bool.and_eq_true, decide_eq_true_eq] at hh; have := hl.out; have := Hq.out; omega
            have hst := unitsS_stop (F := F) hno
            have hRR := HR2.out
            rw [hst, List.append_nil] at hRR
            subst hRR
            clear hst hno HR2 HR
            go_wp2_with fail
            have KT := Lib.hid ((KeepTI.set_ Hblk.out (by decide) (by decide) 0 (.slice A4 3 c4)).trans (KeepTI.set_ (Hblk.out.set_ 0 (.slice A4 3 c4)) (by decide) (by decide) 1 (.slice A6 k c6)))
            have EQ := Lib.hid ((Hblk.out.set_ 0 (.slice A4 3 c4)).set_ 1 (.slice A6 k c6))
            have kk : ∀ b, b ≠ w.heap.size → ((wr.setCell ⟨w.heap.size, 0, none⟩ (.slice A4 3 c4)).setCell ⟨w.heap.size, 1, none⟩ (.slice A6 k c6)).heap[b]? = wr.heap[b]? := fun b hb => (Below.heap_setCell _ _ _ b hb).trans (Below.heap_setCell _ _ _ b hb)
            have U9 := Lib.hid (own_keep Hun.out (w' := (wr.setCell ⟨w.heap.size, 0, none⟩ (.slice A4 3 c4)).setCell ⟨w.heap.size, 1, none⟩ (.slice A6 k c6)) (fun b hb => kk b (fun e => own_blk_ne Hun.out Hblk.out (by decide) (by rw [hb, e]))))
            have B9 := Lib.hid ((Hbel.out.setCell (p := ⟨w.heap.size, 0, none⟩) (by simp) (.slice A4 3 c4)).setCell (p := ⟨w.heap.size, 1, none⟩) (by simp) (.slice A6 k c6))
            clear kk
            generalize (wr.setCell ⟨w.heap.size, 0, none⟩ (.slice A4 3 c4)).setCell ⟨w.heap.size, 1, none⟩ (.slice A6 k c6) = w9 at KT EQ U9 B9 ⊢
            have z0 : w9.cell? ⟨w.heap.size, 0, none⟩ = some (.slice A4 3 c4) := EQ.out.cell 0
            have z1 : w9.cell? ⟨w.heap.size, 1, none⟩ = some (.slice A6 k c6) := EQ.out.cell 1
            refine bodyPost_ret (v := .agg #[.slice A4 3 c4, .slice A6 k c6]) (by simp [results, Tryz.results74, go_sem, z0, z1]) rfl ⟨A4, 3, c4, A6, k, c6, rfl, ⟨own_keepTI Hrm.out (.inl rfl) KT.out, md, Lo.out, lz4, vs, tk, f, U9.out, Hnd.out.keepTI KT.out, Hmd.out⟩, B9.out⟩
        · have hno : goB zs p k = false := by
            rw [← Bool.not_eq_true]; intro hh; simp only [goB, Bool.and_eq_true, decide_eq_true_eq] at hh; have := hl.out; have := Hq.out; omega
          have hst := unitsS_stop (F := F) hno
          have hRR := HR2.out
          rw [hst, List.append_nil] at hRR
          subst hRR
          clear hst hno HR2 HR
          go_wp2_with fail
          have KT := Lib.hid ((KeepTI.set_ Hblk.out (by decide) (by decide) 0 (.slice A4 3 c4)).trans (KeepTI.set_ (Hblk.out.set_ 0 (.slice A4 3 c4)) (by decide) (by decide) 1 (.slice A6 k c6)))
          have EQ := Lib.hid ((Hblk.out.set_ 0 (.slice A4 3 c4)).set_ 1 (.slice A6 k c6))
          have kk : ∀ b, b ≠ w.heap.size → ((wr.setCell ⟨w.heap.size, 0, none⟩ (.slice A4 3 c4)).setCell ⟨w.heap.size, 1, none⟩ (.slice A6 k c6)).heap[b]? = wr.heap[b]? := fun b hb => (Below.heap_setCell _ _ _ b hb).trans (Below.heap_setCell _ _ _ b hb)
          have U9 := Lib.hid (own_keep Hun.out (w' := (wr.setCell ⟨w.heap.size, 0, none⟩ (.slice A4 3 c4)).setCell ⟨w.heap.size, 1, none⟩ (.slice A6 k c6)) (fun b hb => kk b (fun e => own_blk_ne Hun.out Hblk.out (by decide) (by rw [hb, e]))))
          have B9 := Lib.hid ((Hbel.out.setCell (p := ⟨w.heap.size, 0, none⟩) (by simp) (.slice A4 3 c4)).setCell (p := ⟨w.heap.size, 1, none⟩) (by simp) (.slice A6 k c6))
          clear kk
          generalize (wr.setCell ⟨w.heap.size, 0, none⟩ (.slice A4 3 c4)).setCell ⟨w.heap.size, 1, none⟩ (.slice A6 k c6) = w9 at KT EQ U9 B9 ⊢
          have z0 : w9.cell? ⟨w.heap.size, 0, none⟩ = some (.slice A4 3 c4) := EQ.out.cell 0
          have z1 : w9.cell? ⟨w.heap.size, 1, none⟩ = some (.slice A6 k c6) := EQ.out.cell 1
          refine bodyPost_ret (v := .agg #[.slice A4 3 c4, .slice A6 k c6]) (by simp [results, Tryz.results74, go_sem, z0, z1]) rfl ⟨A4, 3, c4, A6, k, c6, rfl, ⟨own_keepTI Hrm.out (.inl rfl) KT.out, md, Lo.out, lz4, vs, tk, f, U9.out, Hnd.out.keepTI KT.out, Hmd.out⟩, B9.out⟩
      · have hno : goB zs p k = false := by
          rw [← Bool.not_eq_true]; intro hh; simp only [goB, Bool.and_eq_true, decide_eq_true_eq] at hh; have := hl.out; have := Hq.out; omega
        have hst := unitsS_stop (F := F) hno
        have hRR := HR2.out
        rw [hst, List.append_nil] at hRR
        subst hRR
        clear hst hno HR2 HR
        go_wp2_with fail
        have KT := Lib.hid ((KeepTI.set_ Hblk.out (by decide) (by decide) 0 (.slice A4 3 c4)).trans (KeepTI.set_ (Hblk.out.set_ 0 (.slice A4 3 c4)) (by decide) (by decide) 1 (.slice A6 k c6)))
        have EQ := Lib.hid ((Hblk.out.set_ 0 (.slice A4 3 c4)).set_ 1 (.slice A6 k c6))
        have kk : ∀ b, b ≠ w.heap.size → ((wr.setCell ⟨w.heap.size, 0, none⟩ (.slice A4 3 c4)).setCell ⟨w.heap.size, 1, none⟩ (.slice A6 k c6)).heap[b]? = wr.heap[b]? := fun b hb => (Below.heap_setCell _ _ _ b hb).trans (Below.heap_setCell _ _ _ b hb)
        have U9 := Lib.hid (own_keep Hun.out (w' := (wr.setCell ⟨w.heap.size, 0, none⟩ (.slice A4 3 c4)).setCell ⟨w.heap.size, 1, none⟩ (.slice A6 k c6)) (fun b hb => kk b (fun e => own_blk_ne Hun.out Hblk.out (by decide) (by rw [hb, e]))))
        have B9 := Lib.hid ((Hbel.out.setCell (p := ⟨w.heap.size, 0, none⟩) (by simp) (.slice A4 3 c4)).setCell (p := ⟨w.heap.size, 1, none⟩) (by simp) (.slice A6 k c6))
        clear kk
        generalize (wr.setCell ⟨w.heap.size, 0, none⟩ (.slice A4 3 c4)).setCell ⟨w.heap.size, 1, none⟩ (.slice A6 k c6) = w9 at KT EQ U9 B9 ⊢
        have z0 : w9.cell? ⟨w.heap.size, 0, none⟩ = some (.slice A4 3 c4) := EQ.out.cell 0
        have z1 : w9.cell? ⟨w.heap.size, 1, none⟩ = some (.slice A6 k c6) := EQ.out.cell 1
        refine bodyPost_ret (v := .agg #[.slice A4 3 c4, .slice A6 k c6]) (by simp [results, Tryz.results74, go_sem, z0, z1]) rfl ⟨A4, 3, c4, A6, k, c6, rfl, ⟨own_keepTI Hrm.out (.inl rfl) KT.out, md, Lo.out, lz4, vs, tk, f, U9.out, Hnd.out.keepTI KT.out, Hmd.out⟩, B9.out⟩
    · have hno : goB zs p k = false := by
        rw [← Bool.not_eq_true]; intro hh; simp only [goB, Bool.and_eq_true, decide_eq_true_eq] at hh; have := hl.out; omega
      have hst := unitsS_stop (F := F) hno
      have hRR := HR2.out
      rw [hst, List.append_nil] at hRR
      subst hRR
      clear hst hno HR2 HR
      go_wp2_with fail
      have KT := Lib.hid ((KeepTI.set_ Hblk.out (by decide) (by decide) 0 (.slice A4 3 c4)).trans (KeepTI.set_ (Hblk.out.set_ 0 (.slice A4 3 c4)) (by decide) (by decide) 1 (.slice A6 k c6)))
      have EQ := Lib.hid ((Hblk.out.set_ 0 (.slice A4 3 c4)).set_ 1 (.slice A6 k c6))
      have kk : ∀ b, b ≠ w.heap.size → ((wr.setCell ⟨w.heap.size, 0, none⟩ (.slice A4 3 c4)).setCell ⟨w.heap.size, 1, none⟩ (.slice A6 k c6)).heap[b]? = wr.heap[b]? := fun b hb => (Below.heap_setCell _ _ _ b hb).trans (Below.heap_setCell _ _ _ b hb)
      have U9 := Lib.hid (own_keep Hun.out (w' := (wr.setCell ⟨w.heap.size, 0, none⟩ (.slice A4 3 c4)).setCell ⟨w.heap.size, 1, none⟩ (.slice A6 k c6)) (fun b hb => kk b (fun e => own_blk_ne Hun.out Hblk.out (by decide) (by rw [hb, e]))))
      have B9 := Lib.hid ((Hbel.out.setCell (p := ⟨w.heap.size, 0, none⟩) (by simp) (.slice A4 3 c4)).setCell (p := ⟨w.heap.size, 1, none⟩) (by simp) (.slice A6 k c6))
      clear kk
      generalize (wr.setCell ⟨w.heap.size, 0, none⟩ (.slice A4 3 c4)).setCell ⟨w.heap.size, 1, none⟩ (.slice A6 k c6) = w9 at KT EQ U9 B9 ⊢
      have z0 : w9.cell? ⟨w.heap.size, 0, none⟩ = some (.slice A4 3 c4) := EQ.out.cell 0
      have z1 : w9.cell? ⟨w.heap.size, 1, none⟩ = some (.slice A6 k c6) := EQ.out.cell 1
      refine bodyPost_ret (v := .agg #[.slice A4 3 c4, .slice A6 k c6]) (by simp [results, Tryz.results74, go_sem, z0, z1]) rfl ⟨A4, 3, c4, A6, k, c6, rfl, ⟨own_keepTI Hrm.out (.inl rfl) KT.out, md, Lo.out, lz4, vs, tk, f, U9.out, Hnd.out.keepTI KT.out, Hmd.out⟩, B9.out⟩
end Go.Proofs.YtlegpecjoaklnaaGreatDoor
