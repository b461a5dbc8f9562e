/- Walk: the reference's ZoneAt. -/
import Derived.Test.YtgngmjlbeofjkaaZoneAtImpl
import Derived.Test.YtgngmjlbeofjkaaFitsSpec
namespace Go.Proofs.Ytgngmjlbeofjkaa
open Go Go.RowKit

set_option maxRecDepth 100000 in
set_option maxHeartbeats 1600000 in
theorem zoneAtS_any (A1 A2 A3 A4 A5 : Option Addr) (n1 c1 n2 c2 n3 c3 n4 c4 n5 c5 : Nat) (room zones ids : List Int) (bs : List (List Tk)) (id : Int) (xs : List Int) (w : World) (h1 : RdI w w.heap.size A1 n1 room) (h2 : RdB w w.heap.size A2 n2 bs)
    (h3 : RdI w w.heap.size A3 n3 zones) (h4 : RdI w w.heap.size A4 n4 ids) (h5 : RdI w w.heap.size A5 n5 xs) (hc5 : n5 ≤ c5) (hz : bs.flatten.length ≤ 1048576) :
    Calls Try.prog 31 #[.slice A1 n1 c1, .slice A2 n2 c2, .slice A3 n3 c3, .slice A4 n4 c4, .agg #[.int .i64 id, .slice A5 n5 c5]] w fun e w' => e = .returned (.int .i64 (zoneAtP room bs zones ids (id, xs))) ∧ Below w.heap.size w w' := by
  have l2 := Lib.hid h2.len
  have l3 := Lib.hid h3.len
  have l5 := Lib.hid h5.len
  have hle2 := h2.le
  have H1 := Lib.hid h1
  have H2 := Lib.hid h2
  have H3 := Lib.hid h3
  have H4 := Lib.hid h4
  have H5 := Lib.hid h5
  clear h1 h2 h3 h4 h5
  have B0 := Lib.hid (new_up w (.cells #[.int .i64 id, .slice A5 n5 c5] 46))
  have P1 := Lib.hid (Blk.new w 46 #[.int .i64 id, .slice A5 n5 c5])
  go_enter Try.func31, Try.ntmps31
  go_wp2_with fail
  generalize w.alloc (.cells #[.int .i64 id, .slice A5 n5 c5] 46) = w0 at B0 P1 ⊢
  have ecall := l43Ok_any A1 A2 A3 A4 n1 c1 n2 c2 n3 c3 n4 c4 room zones ids bs w0 (H1.out.up B0.out) (H2.out.up B0.out) (H3.out.up B0.out) (H4.out.up B0.out) (by omega)
  by_cases hz : zonesOk room bs zones ids = true
  · rw [hz] at ecall
    have HZ := Lib.hid hz
    refine ecall.mono ?_; rintro e w1 ⟨rfl, d1⟩
    have B1 := Lib.hid (below_to B0.out d1)
    have Q1 := Lib.hid (P1.out.below d1 P1.out.lt)
    have ecall2 := l11Ok_any A1 A2 A5 n1 c1 n2 c2 n5 c5 room bs id xs w1 (H1.out.up B1.out) (H2.out.up B1.out) (H5.out.up B1.out) hc5 (by omega)
    have x0 := Q1.out.cell 0
    have x1 := Q1.out.cell 1
    simp only [List.getElem?_toArray, List.getElem?_cons_zero, List.getElem?_cons_succ] at x0 x1
    clear ecall hz d1
    by_cases hcm : comeOk room bs (id, xs) = true
    · rw [hcm] at ecall2
      have HC := Lib.hid hcm
      have Ecall2 := Lib.hid ecall2
      clear ecall2 hcm
      go_wp2_with fail
      refine Ecall2.out.mono ?_; rintro e w2 ⟨rfl, d2⟩
      have B2 := Lib.hid (below_to B1.out d2)
      have R1 := Lib.hid (Q1.out.below d2 Q1.out.lt)
      clear d2 x0 x1
      go_wp2_with fail
      refine (l43Counts_any A2 A3 A4 n2 c2 n3 c3 n4 c4 zones ids bs w2 (H2.out.up B2.out) (H3.out.up B2.out) (H4.out.up B2.out) (by have := zonesOk_len HZ.out; have := l2.out; have := l3.out; omega) (zonesOk_zone HZ.out)).mono ?_
      rintro e w3 ⟨g, rfl, hg, hblk, d3⟩
      have B3 := Lib.hid (below_to B2.out d3)
      have T1 := Lib.hid (R1.out.below d3 R1.out.lt)
      have TC := Lib.hid hblk
      have lC := Lib.hid (countsP_len bs zones ids)
      generalize hC : countsP bs zones ids = C at TC lC
      have HC4 := Lib.hid hC
      have e5 : n5 = 3 := by have := vecOk_len (show vecOk xs = true from comeOk_need HC.out); have := l5.out; omega
      subst e5
      have hx := Lib.hid (show ∀ j, j < 3 → -1000000 ≤ xs[j]?.getD 0 ∧ xs[j]?.getD 0 ≤ 1000000 from fun j hj => by have := vecOk_bd (show vecOk xs = true from comeOk_need HC.out) j; omega)
      have hn1 := Lib.hid (show 3 ≤ n1 from by have := binsOk_room (comeOk_bins HC.out); have := H1.out.len; omega)
      have hzn := Lib.hid (show n3 = n2 from by have := zonesOk_len HZ.out; have := l2.out; have := l3.out; omega)
      clear d3 hblk hC
      go_wp2_with fail
      go_loopw [11, 13] (fun b i wr => ∃ k : Nat, i = .int .i64 k ∧ k ≤ n2 ∧ b = .int .i64 (bestP C zones (roomsTo room bs xs k)) ∧ Below w3.heap.size w3 wr) (fun _ i _ => n2 - (intOf i).toNat)
      case atStart => exact ⟨0, rfl, Nat.zero_le _, rfl, Below.refl _ _⟩
      case round =>
        obtain ⟨k, rfl, hk, rfl, hbel⟩ := hrel
        have HBEL := Lib.hid hbel
        have BW := Lib.hid (below_to B3.out hbel)
        clear hbel
        by_cases hlt : k < n2
        · obtain ⟨b, o, A', m, c', rfl, hb, hc, hmc, hrd⟩ := (H2.out.below BW.out).at_ hlt
          have U1 := Lib.hid (T1.out.below HBEL.out T1.out.lt)
          have UC := Lib.hid (TC.out.below HBEL.out TC.out.lt)
          have lo_ok := load_ok (binsOk_bin (comeOk_bins HC.out) (k := k) (by have := l2.out; omega)).2
          have l900 := (binsOk_bin (comeOk_bins HC.out) (k := k) (by have := l2.out; omega)).1
          have ecall := Lib.hid (fun W (hW : Below wr.heap.size wr W) => l11Fits_any A1 A' A5 n1 c1 m c' c5 room (bs[k]?.getD []) id xs W (H1.out.up (below_to BW.out hW)) ((hrd.more BW.out.size).up hW) (H5.out.up (below_to BW.out hW)) hn1.out (by have := hrd.len; omega) (fun j hj => lo_ok.1 j (by have := hrd.len; omega)) lo_ok.2 hx.out)
          clear lo_ok l900 hrd
          have x0 := U1.out.cell 0
          have x1 := U1.out.cell 1
          simp only [List.getElem?_toArray, List.getElem?_cons_zero, List.getElem?_cons_succ] at x0 x1
          have lwr := BW.out.size
          have k0 : (0 : Int) ≤ (k : Int) := by omega
          have k1 : (k : Int) < (n2 : Int) := by omega
          by_cases hro : roomB room bs xs k = true
          · have HR := Lib.hid (show bestP C zones (roomsTo room bs xs (k + 1)) = bestStep C zones (bestP C zones (roomsTo room bs xs k)) k from by rw [roomsTo_yes hro, bestP_snoc])
            have hbd := bestP_bd C zones n2 (roomsTo room bs xs k) (fun j hj => by have := List.mem_range.1 (List.mem_filter.1 hj).1; omega)
            have ecall2 := ecall.out wr.drew (Below.refl _ _).drew
            rw [show fits3 (add3 (loadP (bs[k]?.getD [])) xs) room = true from hro] at ecall2
            have Ecall3 := Lib.hid ecall2
            clear ecall2 hro
            generalize bestP C zones (roomsTo room bs xs k) = bst at HR hbd
            by_cases hb0 : bst < 0
            · have hstep := Lib.hid (show bestStep C zones bst k = (k : Int) from if_pos (.inl hb0))
              have hb1 : decide (bst < 0) = true := decide_eq_true hb0
              have keep := Lib.hid (show ∀ W, Below wr.heap.size wr W → W.cell? ⟨b, o + k, none⟩ = some (.slice A' m c') ∧ W.cell? ⟨w.heap.size, 0, none⟩ = some (.int .i64 id) ∧ W.cell? ⟨w.heap.size, 1, none⟩ = some (.slice A5 3 c5) from fun W hW =>
                ⟨(hW.cell (p := ⟨b, o + k, none⟩) (by simp; omega)).trans hc, (hW.cell (p := ⟨w.heap.size, 0, none⟩) U1.out.lt).trans x0, (hW.cell (p := ⟨w.heap.size, 1, none⟩) U1.out.lt).trans x1⟩)
              go_wp2_with fail
              refine wp_region_mix (.take 0 (.take 1 (.take 2 (.take 3 (.take 4 (.take 5 (.bar 6 (.take 7 (.take 8 (.take 9 (.take 10 (.take 11 (.take 12 (.take 13 (.take 14 (.take 15 (.take 16 (.take 17 (.take 18 (.take 19 (.take 20 (.take 21 (.take 22 (.take 23 (.take 24 (.take 25 (.take 26 (.take 27 .nil)))))))))))))))))))))))))))) (fun w' => w'.cell? ⟨b, o + k, none⟩ = some (.slice A' m c') ∧ w'.cell? ⟨w.heap.size, 0, none⟩ = some (.int .i64 id) ∧ w'.cell? ⟨w.heap.size, 1, none⟩ = some (.slice A5 3 c5)) (by kernel_rfl) (by kernel_rfl) ⟨hc, x0, x1⟩ (fun _ => ?_)
              clear hc x0 x1
              repeat (first | (refine wpMix_skip (by rfl) (by rfl) ?_; (try simp only [Act.put, List.setIfInBounds_toArray, List.set_cons_zero, List.set_cons_succ])) | (refine wpMix_take (v := ?_) (by rfl) (by rfl) (fun wS hSt => ?_) ?_; rotate_left; (focus ((try dsimp only at hSt); (go_simp <;> with_reducible rfl); done)); (try simp only [Act.put, List.setIfInBounds_toArray, List.set_cons_zero, List.set_cons_succ])))
              (refine wpMix_bar (by rfl) (fun K hK => ?_); go_simp)
              refine Ecall3.out.mono ?_; rintro e w6 ⟨rfl, hb6⟩
              have B6 := Lib.hid (below_to (Below.refl wr.heap.size wr).drew hb6)
              clear hb6
              ((try dsimp only); refine hK.out _ _ (keep.out _ B6.out) (fun hSw => ?_); (try clear hSw); clear hK K; (try simp only [Act.put, List.setIfInBounds_toArray, List.set_cons_zero, List.set_cons_succ]))
              repeat (first | (refine wpMix_skip (by rfl) (by rfl) ?_; (try simp only [Act.put, List.setIfInBounds_toArray, List.set_cons_zero, List.set_cons_succ])) | (refine wpMix_take (v := ?_) (by rfl) (by rfl) (fun wS hSt => ?_) ?_; rotate_left; (focus ((try dsimp only at hSt); (go_simp <;> with_reducible rfl); done)); (try simp only [Act.put, List.setIfInBounds_toArray, List.set_cons_zero, List.set_cons_succ])))
              refine wpMix_nil ?_
              go_wp2
              go_roundw
              case rel => exact ⟨k + 1, by go_num, by omega, by rw [HR.out, hstep.out], below_to HBEL.out B6.out⟩
              case measure => simp [intOf]; omega
            · obtain ⟨bn, rfl⟩ := Int.eq_ofNat_of_zero_le (Int.not_lt.1 hb0)
              have hbn : bn < n2 := by omega
              obtain ⟨b3, o3, rfl, hb3, hc3⟩ := (H3.out.below BW.out).at_ (k := k) (by have := hzn.out; omega)
              obtain ⟨b4, o4, hA4, hb4, hc4⟩ := (H3.out.below BW.out).at_ (k := bn) (by have := hzn.out; omega)
              injection hA4 with hA4
              injection hA4 with e1 e2
              subst e1 e2
              obtain ⟨zi, hzi⟩ := Int.eq_ofNat_of_zero_le (zonesOk_zone HZ.out k).1
              obtain ⟨zb, hzb⟩ := Int.eq_ofNat_of_zero_le (zonesOk_zone HZ.out bn).1
              have zi3 : zi ≤ 3 := by have := (zonesOk_zone HZ.out k).2; omega
              have zb3 : zb ≤ 3 := by have := (zonesOk_zone HZ.out bn).2; omega
              have hci := counts_cell UC.out lC.out zi3
              have hcb := counts_cell UC.out lC.out zb3
              have hst := Lib.hid (show bestStep C zones (bn : Int) k = if C[zi]?.getD 0 < C[zb]?.getD 0 then (k : Int) else (bn : Int) from by
                unfold bestStep zcount
                rw [hzi, Int.toNat_natCast, Int.toNat_natCast, hzb, Int.toNat_natCast]
                by_cases hpq : C[zi]?.getD 0 < C[zb]?.getD 0
                · rw [if_pos (.inr hpq), if_pos hpq]
                · rw [if_neg (by omega), if_neg hpq])
              rw [hzi] at hc3
              rw [hzb] at hc4
              clear hzi hzb
              generalize C[zi]?.getD 0 = p at hci hst
              generalize C[zb]?.getD 0 = q at hcb hst
              have m0 : (0 : Int) ≤ (bn : Int) := by omega
              have m1 : (bn : Int) < (n3 : Int) := by have := hzn.out; omega
              have m2 : (0 : Int) ≤ (zi : Int) := by omega
              have m3 : (zi : Int) < 4 := by omega
              have m4 : (0 : Int) ≤ (zb : Int) := by omega
              have m5 : (zb : Int) < 4 := by omega
              have m6 : decide ((bn : Int) < 0) = false := by simp
              have m7 : (k : Int) < (n3 : Int) := by have := hzn.out; omega
              have glt : g < wr.heap.size := UC.out.lt
              have keep := Lib.hid (show ∀ W, Below wr.heap.size wr W → W.cell? ⟨b, o + k, none⟩ = some (.slice A' m c') ∧ W.cell? ⟨w.heap.size, 0, none⟩ = some (.int .i64 id) ∧ W.cell? ⟨w.heap.size, 1, none⟩ = some (.slice A5 3 c5) ∧
                  W.cell? ⟨b3, o3 + k, none⟩ = some (.int .i64 (zi : Int)) ∧ W.cell? ⟨b3, o3 + bn, none⟩ = some (.int .i64 (zb : Int)) ∧ W.cell? ⟨g, zi, none⟩ = some (.int .i64 p) ∧ W.cell? ⟨g, zb, none⟩ = some (.int .i64 q) from fun W hW =>
                ⟨(hW.cell (p := ⟨b, o + k, none⟩) (by simp; omega)).trans hc, (hW.cell (p := ⟨w.heap.size, 0, none⟩) U1.out.lt).trans x0, (hW.cell (p := ⟨w.heap.size, 1, none⟩) U1.out.lt).trans x1,
                  (hW.cell (p := ⟨b3, o3 + k, none⟩) (by simp; omega)).trans hc3, (hW.cell (p := ⟨b3, o3 + bn, none⟩) (by simp; omega)).trans hc4, (hW.cell (p := ⟨g, zi, none⟩) glt).trans hci, (hW.cell (p := ⟨g, zb, none⟩) glt).trans hcb⟩)
              clear hbd hc x0 x1 hc3 hc4 hci hcb
              have K0 := keep.out wr.drew (Below.refl _ _).drew
              by_cases hpq : p < q
              · have hstep := Lib.hid (hst.out.trans (if_pos hpq))
                have hpq1 : decide (p < q) = true := decide_eq_true hpq
                go_wp2_with fail
                refine wp_region_mix (.take 0 (.take 1 (.take 2 (.take 3 (.take 4 (.take 5 (.bar 6 (.take 7 (.take 8 (.take 9 (.take 10 (.take 11 (.take 12 (.take 13 (.take 14 (.take 15 (.take 16 (.take 17 (.take 18 (.take 19 (.take 20 (.take 21 (.take 22 (.take 23 (.take 24 (.take 25 (.take 26 (.take 27 .nil)))))))))))))))))))))))))))) (fun w' => w'.cell? ⟨b, o + k, none⟩ = some (.slice A' m c') ∧ w'.cell? ⟨w.heap.size, 0, none⟩ = some (.int .i64 id) ∧ w'.cell? ⟨w.heap.size, 1, none⟩ = some (.slice A5 3 c5) ∧
                  w'.cell? ⟨b3, o3 + k, none⟩ = some (.int .i64 (zi : Int)) ∧ w'.cell? ⟨b3, o3 + bn, none⟩ = some (.int .i64 (zb : Int)) ∧ w'.cell? ⟨g, zi, none⟩ = some (.int .i64 p) ∧ w'.cell? ⟨g, zb, none⟩ = some (.int .i64 q)) (by kernel_rfl) (by kernel_rfl) K0 (fun _ => ?_)
                clear K0
                repeat (first | (refine wpMix_skip (by rfl) (by rfl) ?_; (try simp only [Act.put, List.setIfInBounds_toArray, List.set_cons_zero, List.set_cons_succ])) | (refine wpMix_take (v := ?_) (by rfl) (by rfl) (fun wS hSt => ?_) ?_; rotate_left; (focus ((try dsimp only at hSt); (go_simp <;> with_reducible rfl); done)); (try simp only [Act.put, List.setIfInBounds_toArray, List.set_cons_zero, List.set_cons_succ])))
                (refine wpMix_bar (by rfl) (fun K hK => ?_); go_simp)
                refine Ecall3.out.mono ?_; rintro e w6 ⟨rfl, hb6⟩
                have B6 := Lib.hid (below_to (Below.refl wr.heap.size wr).drew hb6)
                clear hb6
                ((try dsimp only); refine hK.out _ _ (keep.out _ B6.out) (fun hSw => ?_); (try clear hSw); clear hK K; (try simp only [Act.put, List.setIfInBounds_toArray, List.set_cons_zero, List.set_cons_succ]))
                repeat (first | (refine wpMix_skip (by rfl) (by rfl) ?_; (try simp only [Act.put, List.setIfInBounds_toArray, List.set_cons_zero, List.set_cons_succ])) | (refine wpMix_take (v := ?_) (by rfl) (by rfl) (fun wS hSt => ?_) ?_; rotate_left; (focus ((try dsimp only at hSt); (go_simp <;> with_reducible rfl); done)); (try simp only [Act.put, List.setIfInBounds_toArray, List.set_cons_zero, List.set_cons_succ])))
                refine wpMix_nil ?_
                go_wp2
                go_roundw
                case rel => exact ⟨k + 1, by go_num, by omega, by rw [HR.out, hstep.out], below_to HBEL.out B6.out⟩
                case measure => simp [intOf]; omega
              · have hstep := Lib.hid (hst.out.trans (if_neg hpq))
                have hpq1 : decide (p < q) = false := decide_eq_false hpq
                go_wp2_with fail
                refine wp_region_mix (.take 0 (.take 1 (.take 2 (.take 3 (.take 4 (.take 5 (.bar 6 (.take 7 (.take 8 (.take 9 (.take 10 (.take 11 (.take 12 (.take 13 (.take 14 (.take 15 (.take 16 (.take 17 (.take 18 (.take 19 (.take 20 (.take 21 (.take 22 (.take 23 (.take 24 (.take 25 (.take 26 (.take 27 .nil)))))))))))))))))))))))))))) (fun w' => w'.cell? ⟨b, o + k, none⟩ = some (.slice A' m c') ∧ w'.cell? ⟨w.heap.size, 0, none⟩ = some (.int .i64 id) ∧ w'.cell? ⟨w.heap.size, 1, none⟩ = some (.slice A5 3 c5) ∧
                  w'.cell? ⟨b3, o3 + k, none⟩ = some (.int .i64 (zi : Int)) ∧ w'.cell? ⟨b3, o3 + bn, none⟩ = some (.int .i64 (zb : Int)) ∧ w'.cell? ⟨g, zi, none⟩ = some (.int .i64 p) ∧ w'.cell? ⟨g, zb, none⟩ = some (.int .i64 q)) (by kernel_rfl) (by kernel_rfl) K0 (fun _ => ?_)
                clear K0
                repeat (first | (refine wpMix_skip (by rfl) (by rfl) ?_; (try simp only [Act.put, List.setIfInBounds_toArray, List.set_cons_zero, List.set_cons_succ])) | (refine wpMix_take (v := ?_) (by rfl) (by rfl) (fun wS hSt => ?_) ?_; rotate_left; (focus ((try dsimp only at hSt); (go_simp <;> with_reducible rfl); done)); (try simp only [Act.put, List.setIfInBounds_toArray, List.set_cons_zero, List.set_cons_succ])))
                (refine wpMix_bar (by rfl) (fun K hK => ?_); go_simp)
                refine Ecall3.out.mono ?_; rintro e w6 ⟨rfl, hb6⟩
                have B6 := Lib.hid (below_to (Below.refl wr.heap.size wr).drew hb6)
                clear hb6
                ((try dsimp only); refine hK.out _ _ (keep.out _ B6.out) (fun hSw => ?_); (try clear hSw); clear hK K; (try simp only [Act.put, List.setIfInBounds_toArray, List.set_cons_zero, List.set_cons_succ]))
                repeat (first | (refine wpMix_skip (by rfl) (by rfl) ?_; (try simp only [Act.put, List.setIfInBounds_toArray, List.set_cons_zero, List.set_cons_succ])) | (refine wpMix_take (v := ?_) (by rfl) (by rfl) (fun wS hSt => ?_) ?_; rotate_left; (focus ((try dsimp only at hSt); (go_simp <;> with_reducible rfl); done)); (try simp only [Act.put, List.setIfInBounds_toArray, List.set_cons_zero, List.set_cons_succ])))
                refine wpMix_nil ?_
                go_wp2
                go_roundw
                case rel => exact ⟨k + 1, by go_num, by omega, by rw [HR.out, hstep.out], below_to HBEL.out B6.out⟩
                case measure => simp [intOf]; omega
          · have hro : roomB room bs xs k = false := by simpa using hro
            have HR := Lib.hid (roomsTo_no hro)
            have ecall2 := ecall.out wr.drew (Below.refl _ _).drew
            rw [show fits3 (add3 (loadP (bs[k]?.getD [])) xs) room = false from hro] at ecall2
            have Ecall3 := Lib.hid ecall2
            clear ecall2 hro
            have keep := Lib.hid (show ∀ W, Below wr.heap.size wr W → W.cell? ⟨b, o + k, none⟩ = some (.slice A' m c') ∧ W.cell? ⟨w.heap.size, 0, none⟩ = some (.int .i64 id) ∧ W.cell? ⟨w.heap.size, 1, none⟩ = some (.slice A5 3 c5) from fun W hW =>
              ⟨(hW.cell (p := ⟨b, o + k, none⟩) (by simp; omega)).trans hc, (hW.cell (p := ⟨w.heap.size, 0, none⟩) U1.out.lt).trans x0, (hW.cell (p := ⟨w.heap.size, 1, none⟩) U1.out.lt).trans x1⟩)
            go_wp2_with fail
            refine wp_region_mix (.take 0 (.take 1 (.take 2 (.take 3 (.take 4 (.take 5 (.bar 6 (.take 7 (.take 8 (.take 9 (.take 10 (.take 11 (.take 12 (.take 13 (.take 14 (.take 15 (.take 16 (.take 17 (.take 18 (.take 19 (.take 20 (.take 21 (.take 22 (.take 23 (.take 24 (.take 25 (.take 26 (.take 27 .nil)))))))))))))))))))))))))))) (fun w' => w'.cell? ⟨b, o + k, none⟩ = some (.slice A' m c') ∧ w'.cell? ⟨w.heap.size, 0, none⟩ = some (.int .i64 id) ∧ w'.cell? ⟨w.heap.size, 1, none⟩ = some (.slice A5 3 c5)) (by kernel_rfl) (by kernel_rfl) ⟨hc, x0, x1⟩ (fun _ => ?_)
            clear hc x0 x1
            repeat (first | (refine wpMix_skip (by rfl) (by rfl) ?_; (try simp only [Act.put, List.setIfInBounds_toArray, List.set_cons_zero, List.set_cons_succ])) | (refine wpMix_take (v := ?_) (by rfl) (by rfl) (fun wS hSt => ?_) ?_; rotate_left; (focus ((try dsimp only at hSt); (go_simp <;> with_reducible rfl); done)); (try simp only [Act.put, List.setIfInBounds_toArray, List.set_cons_zero, List.set_cons_succ])))
            (refine wpMix_bar (by rfl) (fun K hK => ?_); go_simp)
            refine Ecall3.out.mono ?_; rintro e w6 ⟨rfl, hb6⟩
            have B6 := Lib.hid (below_to (Below.refl wr.heap.size wr).drew hb6)
            clear hb6
            ((try dsimp only); refine hK.out _ _ (keep.out _ B6.out) (fun hSw => ?_); (try clear hSw); clear hK K; (try simp only [Act.put, List.setIfInBounds_toArray, List.set_cons_zero, List.set_cons_succ]))
            repeat (first | (refine wpMix_skip (by rfl) (by rfl) ?_; (try simp only [Act.put, List.setIfInBounds_toArray, List.set_cons_zero, List.set_cons_succ])) | (refine wpMix_take (v := ?_) (by rfl) (by rfl) (fun wS hSt => ?_) ?_; rotate_left; (focus ((try dsimp only at hSt); (go_simp <;> with_reducible rfl); done)); (try simp only [Act.put, List.setIfInBounds_toArray, List.set_cons_zero, List.set_cons_succ])))
            refine wpMix_nil ?_
            go_wp2
            go_roundw
            case rel => exact ⟨k + 1, by go_num, by omega, by rw [HR.out], below_to HBEL.out B6.out⟩
            case measure => simp [intOf]; omega
        · have ek : k = n2 := by omega
          have Ek := Lib.hid ek
          clear ek
          go_wp2
          go_ret
          refine ⟨ret_int ?_, BW.out⟩
          rw [zoneAtP, if_pos ⟨HZ.out, HC.out⟩, HC4.out, l2.out, Ek.out]
    · have hcm : comeOk room bs (id, xs) = false := by simpa using hcm
      rw [hcm] at ecall2
      have HC := Lib.hid hcm
      have Ecall2 := Lib.hid ecall2
      clear ecall2 hcm
      go_wp2_with fail
      refine Ecall2.out.mono ?_; rintro e w2 ⟨rfl, d2⟩
      have B2 := Lib.hid (below_to B1.out d2)
      clear d2
      go_wp2
      go_ret
      exact ⟨ret_int (by rw [zoneAtP, if_neg (by rw [HC.out]; simp)]), B2.out⟩
  · have hz : zonesOk room bs zones ids = false := by simpa using hz
    rw [hz] at ecall
    have HZ := Lib.hid hz
    refine ecall.mono ?_; rintro e w1 ⟨rfl, d1⟩
    have B1 := Lib.hid (below_to B0.out d1)
    clear ecall hz d1
    go_wp2
    go_ret
    exact ⟨ret_int (by rw [zoneAtP, if_neg (by rw [HZ.out]; simp)]), B1.out⟩
end Go.Proofs.Ytgngmjlbeofjkaa
