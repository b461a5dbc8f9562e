/- Several texts in one. -/
import Derived.Test.YtdkhdfedejbicaaGreatDoorJ5
import Derived.BigQuiet
namespace Go.Proofs.YtdkhdfedejbicaaGreatDoor
open Go Go.RowKit
attribute [local go_sem ↓] Go.wp_at_zero Go.wp_at_succ

set_option maxRecDepth 100000 in
set_option maxHeartbeats 1600000 in
theorem bins_any (A1 A2 : Option Addr) (n1 c1 n2 c2 : Nat) (us : List Un) (w : World) (h : RdN w w.heap.size A2 n2 us) (hn : n2 ≤ 1048576) :
    Calls Tryz.prog 76 #[.agg #[.slice A1 n1 c1, .slice A2 n2 c2]] w fun e w' => ∃ A' m c', e = .returned (.slice A' m c') ∧ RdB w' w'.heap.size A' m (us.map (·.2)) ∧ Below w.heap.size w w' := by
  obtain ⟨i0, hi0, hz0, hz1, hz2⟩ := info_parts slice_info'
  have hl := qh h.len
  have H := qh h
  clear h
  have hmk := fun W : World => run_make (P := Tryz.prog) W 91 81 i0 _ Tryz.underlying91 hi0 hz0 .i64 .i64 0 n2 (by omega) (by omega) (by rw [hz2]; omega) (by omega)
  simp only [Int.toNat_natCast, Int.toNat_zero, hz1, Nat.mul_one] at hmk
  have hcells : (madeCells (Value.slice none 0 0).cells n2).size = n2 * 1 := by
    show (madeCells #[.slice none 0 0] n2).size = _
    have : (madeCells #[.slice none 0 0] n2).toList.length = n2 := by rw [toList_madeCells_one]; simp
    simpa using this
  have sz : (w.alloc (.cells #[.slice A1 n1 c1, .slice A2 n2 c2] 35)).heap.size = w.heap.size + 1 := World.size_alloc _ _
  generalize madeCells (Value.slice none 0 0).cells n2 = mc at hmk hcells
  have P2 := qh ((Blk.new w 35 #[.slice A1 n1 c1, .slice A2 n2 c2]).alloc (.cells mc 81))
  have hO := World.ownsRow_made (base := w.heap.size) (e := 81) (size := 1) (w.alloc (.cells #[.slice A1 n1 c1, .slice A2 n2 c2] 35)) mc n2 (by rw [sz]; omega) (by unfold maxLen; omega) hcells
  rw [sz] at hO
  have O2 := qh hO
  have B2 := qh (((Below.refl w.heap.size w).alloc (Nat.le_refl _) (.cells #[.slice A1 n1 c1, .slice A2 n2 c2] 35)).alloc (by simp) (.cells mc 81))
  have x0 := P2.out.cell 1
  simp only [gT, gZ, gS] at x0
  clear sz hO hcells
  go_enter Tryz.func76, Tryz.ntmps76
  go_wp2_with fail
  clear x0
  generalize (w.alloc (.cells #[.slice A1 n1 c1, .slice A2 n2 c2] 35)).alloc (.cells mc 81) = w2 at P2 O2 B2 ⊢
  go_loopw [3, 13] (fun v i wr => ∃ (k : Nat) (A6 : Option Addr) (m6 c6 : Nat) (vs : List Value), i = .int .i64 k ∧ k ≤ n2 ∧ v = .slice A6 m6 c6 ∧ Below w.heap.size w wr ∧
    wr.ownsRow w.heap.size 81 1 (.slice A6 m6 c6) m6 vs ∧ m6 = k ∧ BnCells wr w.heap.size vs ((us.take k).map (·.2))) (fun _ i _ => n2 - (intOf i).toNat)
  case atStart => exact ⟨0, _, _, _, [], rfl, Nat.zero_le _, rfl, B2.out, O2.out, rfl, BnCells.nil⟩
  case round =>
    clear B2 P2 O2
    obtain ⟨k, A6, m6, c6, vs, rfl, hk, rfl, hbel, hown, hmk', hcs⟩ := hrel
    have Hbel := qh hbel
    have Hown := qh hown
    have Hcs := qh hcs
    have Hmk := qh hmk'
    have lm : m6 ≤ 1048576 := by omega
    have lz := hbel.size
    clear hbel hown hcs hmk'
    by_cases hlt : k < n2
    · have k1 : (0 : Int) ≤ (k : Int) := by omega
      have k2 : (k : Int) < (n2 : Int) := by omega
      have k3 : 0 ≤ (k : Int) * 2 := by omega
      have hkl : Hid (k < us.length) := by have := hl.out; show _ < _; omega
      have Hs := qh (snd_succ hkl.out)
      obtain ⟨b, o, A', m', c', rfl, lb, hc1, hc2, hmc, hrd⟩ := (H.out.below Hbel.out).at_ hlt
      have Hrd := qh hrd
      clear hrd
      generalize (us[k]?.getD (false, [])).2 = ts at *
      generalize (us[k]?.getD (false, [])).1 = op at *
      have sz : (wr.alloc (.cells #[.bool op, .slice A' m' c'] 83)).heap.size = wr.heap.size + 1 := World.size_alloc _ _
      have Own7 := qh (own_alloc (own_alloc Hown.out (.cells #[.bool op, .slice A' m' c'] 83)) (.cells #[.slice A' m' c'] 81))
      have hX := lit1 (wr.alloc (.cells #[.bool op, .slice A' m' c'] 83)) 81 (.slice A' m' c')
      rw [sz] at hX
      have X7 := qh hX
      have lz7 : w.heap.size ≤ ((wr.alloc (.cells #[.bool op, .slice A' m' c'] 83)).alloc (.cells #[.slice A' m' c'] 81)).heap.size := by rw [World.size_alloc, sz]; omega
      have U7 := qh (((Below.refl w.heap.size wr).alloc lz (.cells #[.bool op, .slice A' m' c'] 83)).alloc (by rw [sz]; omega) (.cells #[.slice A' m' c'] 81))
      clear hX sz
      go_wp2_with (at_builtin; refine wpList_append_src _ rfl _ _ 91 rfl w.heap.size 81 i0 _ 1 24 Tryz.underlying91 hi0 hz0 hz1 hz2 rfl (by omega) (.slice A6 m6 c6) m6 _ rfl Own7.out (some ⟨wr.heap.size + 1, 0, none⟩) 1 1 [.slice A' m' c'] rfl X7.out (one1 _ rfl) (by unfold maxLen; omega) (by omega) lz7 ?_; intro v' w8 hown8 hgrow8 hat8; obtain ⟨A8, c8, rfl⟩ := own_shape hown8)
      have up8 := U7.out.grown hgrow8 lz7 (fun j e => (Own7.out.lt j e).1)
      have Hb8 := qh (Hbel.out.trans up8)
      have Own8 := qh hown8
      have Hc8 := qh ((Hcs.out.snoc Hrd.out hmc).keep (fun p hp => up8.cell hp) (Nat.le_refl _))
      clear hown8 hgrow8 hat8 X7 up8
      go_wp2_with fail
      go_roundw
      case measure => simp [intOf]; omega
      case rel => exact ⟨k + 1, A8, m6 + 1, c8, _, by go_num, by omega, rfl, Hb8.out, Own8.out, by have := Hmk.out; omega, by rw [Hs.out]; exact Hc8.out⟩
    · obtain rfl : k = n2 := by omega
      go_wp2_with fail
      go_ret
      have hc := Hcs.out
      rw [List.take_of_length_le (by rw [hl.out]; exact Nat.le_refl _)] at hc
      exact ⟨A6, m6, c6, rfl, RdB.of_own Hown.out hc lz (by omega), Hbel.out⟩

set_option maxHeartbeats 800000 in
theorem badUnit_any (A : Option Addr) (m c : Nat) (op : Bool) (ts : List Tk) (w : World) (h : ts.length = m) (hm : m ≤ 9223372036854775807) :
    Calls Tryz.prog 78 #[.agg #[.bool op, .slice A m c]] w fun e w' => e = .returned (.bool (!unOk (op, ts))) ∧ Below w.heap.size w w' := by
  have hl := qh h
  clear h
  have B1 := qh (alloc_up w (.cells #[.bool op, .slice A m c] 83))
  have P1 := Blk.new w 83 #[.bool op, .slice A m c]
  have x0 := P1.cell 0
  have x1 := P1.cell 1
  simp only [gT, gZ, gS] at x0 x1
  cases op with
  | true =>
    go_enter Tryz.func78, Tryz.ntmps78
    go_wp2
    go_ret
    exact ⟨ret_bool (by simp [unOk]), B1.out⟩
  | false =>
    go_enter Tryz.func78, Tryz.ntmps78
    go_wp2
    go_ret
    refine ⟨ret_bool ?_, B1.out⟩
    rw [Bool.eq_iff_iff]
    simp only [unOk, Bool.false_or, Bool.not_eq_true', decide_eq_true_eq]
    rw [← Bool.not_eq_true, List.isEmpty_iff_length_eq_zero]
    have := hl.out
    omega

set_option maxHeartbeats 800000 in
theorem indexUnit_any (A : Option Addr) (n c : Nat) (us : List Un) (w : World) (h : RdN w w.heap.size A n us) :
    Calls Tryz.prog 109 #[.slice A n c, .func (.func 78) #[] #[]] w fun e w' => e = .returned (.int .i64 (idxP (fun u => !unOk u) us)) ∧ Below w.heap.size w w' := by
  have hn := h.le
  have hl := qh h.len
  have H := qh h
  clear h
  go_enter Tryz.func109, Tryz.ntmps109
  go_wp2
  go_loopw [8] (fun i wr => ∃ k : Nat, i = .int .i64 k ∧ k ≤ n ∧ Below w.heap.size w wr ∧ (∀ j, j < k → unOk (us[j]?.getD (false, [])) = true)) (fun i _ => n - (intOf i).toNat)
  case atStart => exact ⟨0, rfl, Nat.zero_le _, Below.refl _ _, by intro j hj; omega⟩
  case round =>
    obtain ⟨k, rfl, hk, hbel, hall⟩ := hrel
    have Hbel := qh hbel
    have Hall := qh hall
    clear hall hbel
    by_cases hlt : k < n
    · obtain ⟨b, o, A', m', c', rfl, lb, hc1, hc2, hmc, hrd⟩ := (H.out.below Hbel.out).at_ hlt
      have k1 : (0 : Int) ≤ (k : Int) := by omega
      have k2 : (k : Int) < (n : Int) := by omega
      have k3 : 0 ≤ (k : Int) * 2 := by omega
      have hcall := qh (badUnit_any A' m' c' (us[k]?.getD (false, [])).1 (us[k]?.getD (false, [])).2 wr hrd.len hrd.le)
      clear hrd
      cases hin : unOk (us[k]?.getD (false, [])) with
      | true =>
        have Hin := qh hin
        go_wp2_with (go_at_call 78; refine hcall.out.mono ?_; rintro e w' ⟨rfl, hb'⟩; rw [hin])
        go_roundw
        case rel => exact ⟨k + 1, by go_num, by omega, below_to Hbel.out hb', fun j hj => by
          by_cases e : j = k
          · rw [e]; exact Hin.out
          · exact Hall.out j (by omega)⟩
        case measure => simp [intOf]; omega
      | false =>
        have Hin := qh hin
        go_wp2_with (go_at_call 78; refine hcall.out.mono ?_; rintro e w' ⟨rfl, hb'⟩; rw [hin])
        go_ret
        exact ⟨ret_int (idxP_some (d := (false, [])) (by rw [hl.out]; exact hlt) (by simp [Hin.out]) (fun j hj => by simp [Hall.out j hj])).symm, below_to Hbel.out hb'⟩
    · go_wp2
      go_ret
      exact ⟨ret_int (idxP_none (d := (false, [])) (fun j hj => by simp [Hall.out j (by have := hl.out; omega)])).symm, Hbel.out⟩

set_option maxHeartbeats 400000 in
theorem containsUnit_any (A : Option Addr) (n c : Nat) (us : List Un) (w : World) (h : RdN w w.heap.size A n us) :
    Calls Tryz.prog 77 #[.slice A n c, .func (.func 78) #[] #[]] w fun e w' => e = .returned (.bool (us.any (fun u => !unOk u))) ∧ Below w.heap.size w w' := by
  have H := qh h
  clear h
  go_enter Tryz.func77, Tryz.ntmps77
  go_wp2_with (go_at_call 109; refine (indexUnit_any _ _ _ _ _ H.out).mono ?_; rintro e w' ⟨rfl, hb'⟩)
  go_ret
  exact ⟨ret_bool (idxP_ge _ _), hb'⟩

set_option maxRecDepth 100000 in
set_option maxHeartbeats 1600000 in
theorem clusterValidIV_any (A1 A2 : Option Addr) (n1 c1 n2 c2 : Nat) (room : List Int) (us : List Un) (w : World) (h : RdC w A1 A2 n1 n2 room us) (hs : ShV us) :
    Calls Tryz.prog 46 #[.agg #[.slice A1 n1 c1, .slice A2 n2 c2]] w fun e w' => e = .returned (.bool (clOk room us)) ∧ Below w.heap.size w w' := by
  have hl := qh h.b.len
  have H := qh h
  have Hs := qh hs
  have ln : n2 ≤ 1048576 := by have := h.b.len; have := hs.1; omega
  clear h hs
  have B1 := qh (alloc_up w (.cells #[.slice A1 n1 c1, .slice A2 n2 c2] 35))
  have P1 := qh (Blk.new w 35 #[.slice A1 n1 c1, .slice A2 n2 c2])
  have D1 := qh (B1.out.drew)
  have hk2 := qh (fun w' (hb : Below (w.heap.size + 1) (w.alloc (.cells #[.slice A1 n1 c1, .slice A2 n2 c2] 35)) w') => box_pair 35 w (.slice A1 n1 c1) (.slice A2 n2 c2) (w' := w') hb)
  have sz : (w.alloc (.cells #[.slice A1 n1 c1, .slice A2 n2 c2] 35)).heap.size = w.heap.size + 1 := World.size_alloc _ _
  rw [← sz] at hk2
  clear sz
  go_enter Tryz.func46, Tryz.ntmps46
  go_wp2_with fail
  generalize w.alloc (.cells #[.slice A1 n1 c1, .slice A2 n2 c2] 35) = w1 at B1 P1 D1 hk2 ⊢
  have K0 : (w1.drew.cell? ⟨w.heap.size, 0, none⟩ = some (.slice A1 n1 c1) ∧ w1.drew.cell? ⟨w.heap.size, 1, none⟩ = some (.slice A2 n2 c2)) := ⟨P1.out.cell 0, P1.out.cell 1⟩
  have H1 := qh (H.out.up D1.out)
  have hH := qh (fun w' (hb : Below w1.heap.size w1 w') => hk2.out w' hb)
  by_cases hin : inR 1 10 (n2 : Int) = true
  · refine wp_region_mix (.take 0 (.take 1 (.take 2 (.bar 3 (.take 4 (.take 5 (.take 6 (.take 7 (.take 8 (.bar 9 (.bar 10 (.take 11 (.take 12 .nil))))))))))))) (fun w' => w'.cell? ⟨w.heap.size, 0, none⟩ = some (.slice A1 n1 c1) ∧ w'.cell? ⟨w.heap.size, 1, none⟩ = some (.slice A2 n2 c2)) (by kernel_rfl) (by kernel_rfl) K0 (fun _ => ?_)
    clear K0
    repeat ((first | refine mxS (by rfl) (by rfl) ?_ | (refine mxT (v := ?_) (by rfl) (by rfl) (fun z y => ?_) ?_; rotate_left; (focus ((try dsimp only at y); (go_simp <;> with_reducible rfl); done)))); (try simp only [Act.put,pS,pZ,pC]))
    (refine mxB (by rfl) (fun K hK => ?_); go_simp)
    refine (within_any _ _ _ _).mono ?_; rintro e w2 ⟨rfl, rfl⟩
    rw [hin]
    ((try dsimp only); refine nxK hK _ _ (hH.out _ ((Below.refl _ _).drew)) ?_; clear hK K; (try simp only [Act.put,pS,pZ,pC]))
    repeat ((first | refine mxS (by rfl) (by rfl) ?_ | (refine mxT (v := ?_) (by rfl) (by rfl) (fun z y => ?_) ?_; rotate_left; (focus ((try dsimp only at y); (go_simp <;> with_reducible rfl); done)))); (try simp only [Act.put,pS,pZ,pC]))
    (refine mxB (by rfl) (fun K hK => ?_); go_simp)
    refine (bins_any A1 A2 n1 c1 n2 c2 us w1.drew H1.out.b ln).mono ?_; rintro e w3 ⟨A5, m5, c5, rfl, hr5, hb5⟩
    have Hr5 := qh hr5
    have Hb5 := qh hb5
    clear hr5 hb5
    ((try dsimp only); refine nxK hK _ _ (hH.out _ (below_to (Below.refl _ _).drew Hb5.out)) ?_; clear hK K; (try simp only [Act.put,pS,pZ,pC]))
    (refine mxB (by rfl) (fun K hK => ?_); go_simp)
    refine (binsValidI_any A1 A5 n1 c1 m5 c5 room _ w3 (H1.out.a.up Hb5.out) Hr5.out (Hs.out.2)).mono ?_; rintro e w4 ⟨rfl, hb6⟩
    have Hb6 := qh (below_to Hb5.out hb6)
    clear hb6
    cases hbo : binsOk room (us.map (·.2)) with
    | false =>
      have Hbo := qh hbo
      ((try dsimp only); refine nxK hK _ _ (hH.out _ (below_to (Below.refl _ _).drew Hb6.out)) ?_; clear hK K; (try simp only [Act.put,pS,pZ,pC]))
      repeat ((first | refine mxS (by rfl) (by rfl) ?_ | (refine mxT (v := ?_) (by rfl) (by rfl) (fun z y => ?_) ?_; rotate_left; (focus ((try dsimp only at y); (go_simp <;> with_reducible rfl); done)))); (try simp only [Act.put,pS,pZ,pC]))
      refine wpMix_nil ?_
      go_wp2_with fail
      go_ret
      exact ⟨ret_bool (by rw [clOk_unfold, Hbo.out]; simp), below_to D1.out Hb6.out⟩
    | true =>
      have Hbo := qh hbo
      ((try dsimp only); refine nxK hK _ _ (hH.out _ (below_to (Below.refl _ _).drew Hb6.out)) ?_; clear hK K; (try simp only [Act.put,pS,pZ,pC]))
      repeat ((first | refine mxS (by rfl) (by rfl) ?_ | (refine mxT (v := ?_) (by rfl) (by rfl) (fun z y => ?_) ?_; rotate_left; (focus ((try dsimp only at y); (go_simp <;> with_reducible rfl); done)))); (try simp only [Act.put,pS,pZ,pC]))
      refine wpMix_nil ?_
      obtain ⟨x0, x1⟩ := hH.out _ (below_to (Below.refl _ _).drew Hb6.out)
      go_wp2_with (go_at_call 77; refine (containsUnit_any A2 n2 c2 us w4 (H1.out.b.up Hb6.out)).mono ?_; rintro e w5 ⟨rfl, hb7⟩)
      go_ret
      refine ⟨ret_bool ?_, below_to D1.out (below_to Hb6.out hb7)⟩
      rw [clOk_unfold, Hbo.out, Bool.and_true, ← inR_len, hl.out, hin, Bool.true_and]
      simp [List.any_eq_not_all_not]
  · have hin : inR 1 10 (n2 : Int) = false := by simpa using hin
    refine wp_region_mix (.take 0 (.take 1 (.take 2 (.bar 3 (.take 4 (.take 5 (.take 6 (.take 7 (.take 8 (.take 9 (.take 10 (.take 11 (.take 12 .nil))))))))))))) (fun w' => w'.cell? ⟨w.heap.size, 0, none⟩ = some (.slice A1 n1 c1) ∧ w'.cell? ⟨w.heap.size, 1, none⟩ = some (.slice A2 n2 c2)) (by kernel_rfl) (by kernel_rfl) K0 (fun _ => ?_)
    clear K0
    repeat ((first | refine mxS (by rfl) (by rfl) ?_ | (refine mxT (v := ?_) (by rfl) (by rfl) (fun z y => ?_) ?_; rotate_left; (focus ((try dsimp only at y); (go_simp <;> with_reducible rfl); done)))); (try simp only [Act.put,pS,pZ,pC]))
    (refine mxB (by rfl) (fun K hK => ?_); go_simp)
    refine (within_any _ _ _ _).mono ?_; rintro e w2 ⟨rfl, rfl⟩
    rw [hin]
    ((try dsimp only); refine nxK hK _ _ (hH.out _ ((Below.refl _ _).drew)) ?_; clear hK K; (try simp only [Act.put,pS,pZ,pC]))
    repeat ((first | refine mxS (by rfl) (by rfl) ?_ | (refine mxT (v := ?_) (by rfl) (by rfl) (fun z y => ?_) ?_; rotate_left; (focus ((try dsimp only at y); (go_simp <;> with_reducible rfl); done)))); (try simp only [Act.put,pS,pZ,pC]))
    refine wpMix_nil ?_
    go_wp2
    go_ret
    exact ⟨ret_bool (by rw [clOk_unfold, ← inR_len, hl.out, hin, Bool.false_and, Bool.false_and]), D1.out⟩

theorem clusterValidI_any (A1 A2 : Option Addr) (n1 c1 n2 c2 : Nat) (room : List Int) (us : List Un) (w : World) (h : RdC w A1 A2 n1 n2 room us) (hs : ShU us) :
    Calls Tryz.prog 46 #[.agg #[.slice A1 n1 c1, .slice A2 n2 c2]] w fun e w' => e = .returned (.bool (clOk room us)) ∧ Below w.heap.size w w' := clusterValidIV_any A1 A2 n1 c1 n2 c2 room us w h hs.v

end Go.Proofs.YtdkhdfedejbicaaGreatDoor

namespace Go.Proofs.YtdkhdfedejbicaaGreatDoor
open Go Go.RowKit
attribute [local go_sem ↓] Go.wp_at_zero Go.wp_at_succ

end Go.Proofs.YtdkhdfedejbicaaGreatDoor

namespace Go.Proofs.YtdkhdfedejbicaaGreatDoor
open Go Go.RowKit
attribute [local go_sem ↓] Go.wp_at_zero Go.wp_at_succ

end Go.Proofs.YtdkhdfedejbicaaGreatDoor
