/- Walk: the reference's l21At. -/
import Derived.Test.YtlegpecjoaklnaaGreatDoorClOwnR
import Derived.Test.YtlegpecjoaklnaaGreatDoorJ3
namespace Go.Proofs.YtlegpecjoaklnaaGreatDoor
open Go Go.RowKit
attribute [local go_sem ↓] Go.wp_at_zero Go.wp_at_succ

/-- A node that is open, or closed, and has room. -/
def atB (room xs : List Int) (op : Bool) (u : Un) : Bool := (u.1 == op) && fits3 (add3 (loadP u.2) xs) room
/-- l21At. -/
def cAtP (room : List Int) (us : List Un) (xs : List Int) (op : Bool) : Int := idxP (atB room xs op) us
theorem clOk_vecs {room : List Int} {us : List Un} (h : clOk room us = true) : vecOk room = true ∧ ∀ u ∈ us, u.2.length ≤ 14 ∧ ∀ t ∈ u.2, vecOk t.2 = true := by
  obtain ⟨_, _, _, f4⟩ := clOk_facts h
  simp only [clOk, binsOk, tasksOk, Bool.and_eq_true, decide_eq_true_eq, List.all_eq_true] at h
  obtain ⟨⟨_, ⟨_, ⟨⟨⟨h3, _⟩, h5⟩, _⟩⟩, _⟩, _⟩ := h
  simp only [roomOk, Bool.and_eq_true] at h3
  refine ⟨h3.1, fun u hu => ⟨(f4 u hu).1, fun t ht => ?_⟩⟩
  have := h5 t (List.mem_flatten.2 ⟨u.2, List.mem_map.2 ⟨u, hu, rfl⟩, ht⟩)
  simp only [taskOk, vecFits, Bool.and_eq_true] at this
  exact this.2.1.1

set_option maxRecDepth 100000 in
set_option maxHeartbeats 3200000 in
theorem l21At_any (A1 A2 A3 : Option Addr) (n1 c1 n2 c2 c3 : Nat) (room : List Int) (us : List Un) (id : Int) (xs : List Int) (op : Bool) (w : World) (h : RdC w A1 A2 n1 n2 room us) (hx : RdI w w.heap.size A3 3 xs) (hok : clOk room us = true) (hv : vecOk xs = true) :
    Calls Tryz.prog 175 #[.agg #[.slice A1 n1 c1, .slice A2 n2 c2], .agg #[.int .i64 id, .slice A3 3 c3], .bool op] w fun e w' => e = .returned (.int .i64 (cAtP room us xs op)) ∧ Below w.heap.size w w' := by
  have hl := Lib.hid h.b.len
  have hl1 := Lib.hid h.a.len
  have ln := h.b.le
  have H := Lib.hid h
  have HX := Lib.hid hx
  have Hv := Lib.hid (clOk_vecs hok)
  have Hxs := Lib.hid (fun j (_ : j < 3) => vecOk_bd hv j)
  clear h hx hok hv
  have sz : (w.alloc (.cells #[.slice A1 n1 c1, .slice A2 n2 c2] 26)).heap.size = w.heap.size + 1 := World.size_alloc _ _
  have B1 := Lib.hid ((alloc_up w (.cells #[.slice A1 n1 c1, .slice A2 n2 c2] 26)).alloc (by rw [sz]; omega) (.cells #[.int .i64 id, .slice A3 3 c3] 33))
  have P1 := Lib.hid ((Blk.new w 26 #[.slice A1 n1 c1, .slice A2 n2 c2]).alloc (.cells #[.int .i64 id, .slice A3 3 c3] 33))
  have hT := Blk.new (w.alloc (.cells #[.slice A1 n1 c1, .slice A2 n2 c2] 26)) 33 #[.int .i64 id, .slice A3 3 c3]
  rw [sz] at hT
  have T1 := Lib.hid hT
  clear hT sz
  go_enter Tryz.func175, Tryz.ntmps175
  go_wp2_with fail
  generalize (w.alloc (.cells #[.slice A1 n1 c1, .slice A2 n2 c2] 26)).alloc (.cells #[.int .i64 id, .slice A3 3 c3] 33) = w1 at B1 P1 T1 ⊢
  go_loopw [7] (fun i wr => ∃ k : Nat, i = .int .i64 k ∧ k ≤ n2 ∧ Below w.heap.size w wr ∧ Blk wr w.heap.size 26 #[.slice A1 n1 c1, .slice A2 n2 c2] ∧ Blk wr (w.heap.size + 1) 33 #[.int .i64 id, .slice A3 3 c3] ∧ (∀ j, j < k → atB room xs op (us[j]?.getD (false, [])) = false)) (fun i _ => n2 - (intOf i).toNat)
  case atStart => exact ⟨0, rfl, Nat.zero_le _, B1.out, P1.out, T1.out, by intro j hj; omega⟩
  case round =>
    clear B1 P1 T1
    obtain ⟨k, rfl, hk, hbel, hblk, htk, hall⟩ := hrel
    have Hall := Lib.hid hall
    have y1 := hblk.cell 1
    simp only [List.getElem?_toArray, List.getElem?_cons_zero, List.getElem?_cons_succ] at y1
    by_cases hlt : k < n2
    · have HB := Lib.hid hbel.drew
      have HP := Lib.hid hblk.drew
      have HT := Lib.hid htk.drew
      have k1 : (0 : Int) ≤ (k : Int) := by omega
      have k2 : (k : Int) < (n2 : Int) := by omega
      have k3 : 0 ≤ (k : Int) * 2 := by omega
      have hkl : Hid (k < us.length) := by have := hl.out; show _ < _; omega
      have hr := H.out.up HB.out
      obtain ⟨b, o, A', m', c', hA, lb, hc1, hc2, hmc, hrd⟩ := hr.b.at_ hlt
      obtain ⟨b0, o0, hA0, lb0, _⟩ := H.out.b.2.2 (by omega)
      rw [hA0] at hA
      injection hA with hA
      injection hA with hA1 hA2
      subst hA1 hA2 hA0
      have hvu := (Hv.out.2 _ (un_mem hkl.out))
      have hm14 : m' ≤ 14 := by have := hrd.len; have := hvu.1; omega
      have hcall := Lib.hid (l11Fits_any A1 A' A3 n1 c1 m' c' c3 room (us[k]?.getD (false, [])).2 id xs wr.drew hr.a hrd (HX.out.up HB.out) (by have := vecOk_len Hv.out.1; have := hl1.out; omega) (by omega) (fun j hj => vecOk_len (hvu.2 _ (tk_mem (by rw [hrd.len]; exact hj)))) (fun j i => by
        by_cases hj : j < (us[k]?.getD (false, [])).2.length
        · have := vecOk_bd (hvu.2 _ (tk_mem hj)) i; omega
        · have hn : (us[k]?.getD (false, [])).2[j]? = none := List.getElem?_eq_none (by omega)
          rw [hn]; simp) (fun j hj => by have := Hxs.out j hj; omega))
      clear hall hbel hblk htk hr hrd hvu
      have hS := Lib.hid (fun w' (hb : Below wr.drew.heap.size wr.drew w') => (⟨⟨(HP.out.below hb HP.out.lt).cell 0, (HP.out.below hb HP.out.lt).cell 1⟩, ⟨(HT.out.below hb HT.out.lt).cell 0, (HT.out.below hb HT.out.lt).cell 1⟩, (hb.cell (p := ⟨b0, o0 + k * 2, none⟩) lb).trans hc1, (hb.cell (p := ⟨b0, o0 + k * 2 + 1, none⟩) lb).trans hc2⟩ : (w'.cell? ⟨w.heap.size, 0, none⟩ = some (.slice A1 n1 c1) ∧ w'.cell? ⟨w.heap.size, 1, none⟩ = some (.slice (some ⟨b0, o0, none⟩) n2 c2)) ∧ (w'.cell? ⟨w.heap.size + 1, 0, none⟩ = some (.int .i64 id) ∧ w'.cell? ⟨w.heap.size + 1, 1, none⟩ = some (.slice A3 3 c3)) ∧ w'.cell? ⟨b0, o0 + k * 2, none⟩ = some (.bool (us[k]?.getD (false, [])).1) ∧ w'.cell? ⟨b0, o0 + k * 2 + 1, none⟩ = some (.slice A' m' c')))
      have K0 := hS.out wr.drew (Below.refl _ _)
      clear hc1 hc2
      have Hb := Lib.hid (show atB room xs op (us[k]?.getD (false, [])) = (((us[k]?.getD (false, [])).1 == op) && fits3 (add3 (loadP (us[k]?.getD (false, [])).2) xs) room) from rfl)
      generalize (us[k]?.getD (false, [])).1 = uo at *
      go_wp2_with fail
      clear y1
      cases hop : (uo == op) with
      | false =>
        have hop2 : Hid (atB room xs op (us[k]?.getD (false, [])) = false) := by show _ = _; rw [Hb.out, hop, Bool.false_and]
        refine wp_region_mix (.take 0 (.take 1 (.take 2 (.take 3 (.take 4 (.take 5 (.take 6 (.take 7 (.take 8 (.take 9 (.take 10 (.take 11 (.take 12 (.take 13 (.take 14 (.take 15 (.take 16 (.take 17 (.take 18 (.take 19 .nil)))))))))))))))))))) (fun w' => (w'.cell? ⟨w.heap.size, 0, none⟩ = some (.slice A1 n1 c1) ∧ w'.cell? ⟨w.heap.size, 1, none⟩ = some (.slice (some ⟨b0, o0, none⟩) n2 c2)) ∧ (w'.cell? ⟨w.heap.size + 1, 0, none⟩ = some (.int .i64 id) ∧ w'.cell? ⟨w.heap.size + 1, 1, none⟩ = some (.slice A3 3 c3)) ∧ w'.cell? ⟨b0, o0 + k * 2, none⟩ = some (.bool uo) ∧ w'.cell? ⟨b0, o0 + k * 2 + 1, none⟩ = some (.slice A' m' c')) (by kernel_rfl) (by kernel_rfl) K0 (fun _ => ?_)
        clear K0
        repeat (first | (refine wpMix_skip (by rfl) (by rfl) ?_; (try simp only [Act.put, List.setIfInBounds_toArray, List.set_cons_zero, List.set_cons_succ])) | (refine wpMix_take (v := ?_) (by rfl) (by rfl) (fun wS hSt => ?_) ?_; rotate_left; (focus ((try dsimp only at hSt); (go_simp <;> with_reducible rfl); done)); (try simp only [Act.put, List.setIfInBounds_toArray, List.set_cons_zero, List.set_cons_succ])))
        refine wpMix_nil ?_
        go_wp2_with fail
        go_roundw
        case rel => exact ⟨k + 1, by go_num, by omega, HB.out, HP.out, HT.out, fun j hj => by
          by_cases e : j = k
          · rw [e]; exact hop2.out
          · exact Hall.out j (by omega)⟩
        case measure => simp [intOf]; omega
      | true =>
        refine wp_region_mix (.take 0 (.take 1 (.take 2 (.take 3 (.take 4 (.take 5 (.take 6 (.take 7 (.take 8 (.take 9 (.take 10 (.take 11 (.take 12 (.take 13 (.take 14 (.take 15 (.take 16 (.take 17 (.bar 18 (.take 19 .nil)))))))))))))))))))) (fun w' => (w'.cell? ⟨w.heap.size, 0, none⟩ = some (.slice A1 n1 c1) ∧ w'.cell? ⟨w.heap.size, 1, none⟩ = some (.slice (some ⟨b0, o0, none⟩) n2 c2)) ∧ (w'.cell? ⟨w.heap.size + 1, 0, none⟩ = some (.int .i64 id) ∧ w'.cell? ⟨w.heap.size + 1, 1, none⟩ = some (.slice A3 3 c3)) ∧ w'.cell? ⟨b0, o0 + k * 2, none⟩ = some (.bool uo) ∧ w'.cell? ⟨b0, o0 + k * 2 + 1, none⟩ = some (.slice A' m' c')) (by kernel_rfl) (by kernel_rfl) K0 (fun _ => ?_)
        clear K0
        repeat (first | (refine wpMix_skip (by rfl) (by rfl) ?_; (try simp only [Act.put, List.setIfInBounds_toArray, List.set_cons_zero, List.set_cons_succ])) | (refine wpMix_take (v := ?_) (by rfl) (by rfl) (fun wS hSt => ?_) ?_; rotate_left; (focus ((try dsimp only at hSt); (go_simp <;> with_reducible rfl); done)); (try simp only [Act.put, List.setIfInBounds_toArray, List.set_cons_zero, List.set_cons_succ])))
        (refine wpMix_bar (by rfl) (fun K hK => ?_); go_simp)
        refine hcall.out.mono ?_; rintro e w2 ⟨rfl, hb2⟩
        have B2 := Lib.hid (below_to HB.out hb2)
        have P2 := Lib.hid (HP.out.below hb2 HP.out.lt)
        have T2 := Lib.hid (HT.out.below hb2 HT.out.lt)
        cases hf : fits3 (add3 (loadP (us[k]?.getD (false, [])).2) xs) room with
        | false =>
          have hop2 : Hid (atB room xs op (us[k]?.getD (false, [])) = false) := by show _ = _; rw [Hb.out, hf, Bool.and_false]
          ((try dsimp only); refine hK.out _ _ (hS.out _ hb2) (fun hSw => ?_); (try clear hSw); clear hK K; (try simp only [Act.put, List.setIfInBounds_toArray, List.set_cons_zero, List.set_cons_succ]))
          clear hb2
          repeat (first | (refine wpMix_skip (by rfl) (by rfl) ?_; (try simp only [Act.put, List.setIfInBounds_toArray, List.set_cons_zero, List.set_cons_succ])) | (refine wpMix_take (v := ?_) (by rfl) (by rfl) (fun wS hSt => ?_) ?_; rotate_left; (focus ((try dsimp only at hSt); (go_simp <;> with_reducible rfl); done)); (try simp only [Act.put, List.setIfInBounds_toArray, List.set_cons_zero, List.set_cons_succ])))
          refine wpMix_nil ?_
          go_wp2_with fail
          go_roundw
          case rel => exact ⟨k + 1, by go_num, by omega, B2.out, P2.out, T2.out, fun j hj => by
            by_cases e : j = k
            · rw [e]; exact hop2.out
            · exact Hall.out j (by omega)⟩
          case measure => simp [intOf]; omega
        | true =>
          have hop2 : Hid (atB room xs op (us[k]?.getD (false, [])) = true) := by show _ = _; rw [Hb.out, hf, hop]; rfl
          ((try dsimp only); refine hK.out _ _ (hS.out _ hb2) (fun hSw => ?_); (try clear hSw); clear hK K; (try simp only [Act.put, List.setIfInBounds_toArray, List.set_cons_zero, List.set_cons_succ]))
          clear hb2
          repeat (first | (refine wpMix_skip (by rfl) (by rfl) ?_; (try simp only [Act.put, List.setIfInBounds_toArray, List.set_cons_zero, List.set_cons_succ])) | (refine wpMix_take (v := ?_) (by rfl) (by rfl) (fun wS hSt => ?_) ?_; rotate_left; (focus ((try dsimp only at hSt); (go_simp <;> with_reducible rfl); done)); (try simp only [Act.put, List.setIfInBounds_toArray, List.set_cons_zero, List.set_cons_succ])))
          refine wpMix_nil ?_
          go_wp2_with fail
          go_ret
          exact ⟨ret_int (idxP_some (d := (false, [])) hkl.out hop2.out (fun j hj => Hall.out j hj)).symm, B2.out⟩
    · have HB := Lib.hid hbel
      clear hbel hblk htk hall
      go_wp2_with fail
      go_ret
      exact ⟨ret_int (idxP_none (d := (false, [])) (fun j hj => Hall.out j (by have := hl.out; omega))).symm, HB.out⟩
end Go.Proofs.YtlegpecjoaklnaaGreatDoor
