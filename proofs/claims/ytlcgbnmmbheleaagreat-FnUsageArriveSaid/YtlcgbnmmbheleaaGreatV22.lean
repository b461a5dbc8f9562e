/- Several texts in one. -/
import Derived.Test.YtlcgbnmmbheleaaGreatV21
namespace Go.Proofs.YtlcgbnmmbheleaaGreat
set_option linter.unusedSimpArgs false
set_option linter.unusedVariables false
open Go Go.RowKit

end Go.Proofs.YtlcgbnmmbheleaaGreat

namespace Go.Proofs.YtlcgbnmmbheleaaGreat
open Go Go.RowKit
attribute [local go_sem ↓] Go.wp_at_zero Go.wp_at_succ

set_option maxRecDepth 100000 in
set_option maxHeartbeats 1600000 in
theorem bins_any (A1 A2 : Option Addr) (n1 c1 n2 c2 : Nat) (us : List Un) (w : World) (h : RdN w w.heap.size A2 n2 us) (hn : n2 ≤ 1048576) :
    Calls Tryz.prog 33 #[.agg #[.slice A1 n1 c1, .slice A2 n2 c2]] w fun e w' => ∃ A' m c', e = .returned (.slice A' m c') ∧ RdB w' w'.heap.size A' m (us.map (·.2)) ∧ Below w.heap.size w w' := by
  obtain ⟨i0, hi0, hz0, hz1, hz2⟩ := info_parts slice_info'
  have hl := qh h.len
  have H := qh h
  clear h
  have hmk := fun W : World => run_make (P := Tryz.prog) W 55 30 i0 _ Tryz.underlying55 hi0 hz0 .i64 .i64 0 n2 (by omega) (by omega) (by rw [hz2]; omega) (by omega)
  simp only [Int.toNat_natCast, Int.toNat_zero, hz1, Nat.mul_one] at hmk
  have hcells : (madeCells (Value.slice none 0 0).cells n2).size = n2 * 1 := by
    show (madeCells #[.slice none 0 0] n2).size = _
    have : (madeCells #[.slice none 0 0] n2).toList.length = n2 := by rw [toList_madeCells_one]; simp
    simpa using this
  have sz : (w.alloc (.cells #[.slice A1 n1 c1, .slice A2 n2 c2] 26)).heap.size = w.heap.size + 1 := World.size_alloc _ _
  generalize madeCells (Value.slice none 0 0).cells n2 = mc at hmk hcells
  have P2 := qh ((Blk.new w 26 #[.slice A1 n1 c1, .slice A2 n2 c2]).alloc (.cells mc 30))
  have hO := World.ownsRow_made (base := w.heap.size) (e := 30) (size := 1) (w.alloc (.cells #[.slice A1 n1 c1, .slice A2 n2 c2] 26)) mc n2 (by rw [sz]; omega) (by unfold maxLen; omega) hcells
  rw [sz] at hO
  have O2 := qh hO
  have B2 := qh (((Below.refl w.heap.size w).alloc (Nat.le_refl _) (.cells #[.slice A1 n1 c1, .slice A2 n2 c2] 26)).alloc (by simp) (.cells mc 30))
  have x0 := P2.out.cell 1
  simp only [gT, gZ, gS] at x0
  clear sz hO hcells
  go_enter Tryz.func33, Tryz.ntmps33
  go_wp2_with fail
  clear x0
  generalize (w.alloc (.cells #[.slice A1 n1 c1, .slice A2 n2 c2] 26)).alloc (.cells mc 30) = w2 at P2 O2 B2 ⊢
  go_loopw [3, 13] (fun v i wr => ∃ (k : Nat) (A6 : Option Addr) (m6 c6 : Nat) (vs : List Value), i = .int .i64 k ∧ k ≤ n2 ∧ v = .slice A6 m6 c6 ∧ Below w.heap.size w wr ∧
    wr.ownsRow w.heap.size 30 1 (.slice A6 m6 c6) m6 vs ∧ m6 = k ∧ BnCells wr w.heap.size vs ((us.take k).map (·.2))) (fun _ i _ => n2 - (intOf i).toNat)
  case atStart => exact ⟨0, _, _, _, [], rfl, Nat.zero_le _, rfl, B2.out, O2.out, rfl, BnCells.nil⟩
  case round =>
    clear B2 P2 O2
    obtain ⟨k, A6, m6, c6, vs, rfl, hk, rfl, hbel, hown, hmk', hcs⟩ := hrel
    have Hbel := qh hbel
    have Hown := qh hown
    have Hcs := qh hcs
    have Hmk := qh hmk'
    have lm : m6 ≤ 1048576 := by omega
    have lz := hbel.size
    clear hbel hown hcs hmk'
    by_cases hlt : k < n2
    · have k1 : (0 : Int) ≤ (k : Int) := by omega
      have k2 : (k : Int) < (n2 : Int) := by omega
      have k3 : 0 ≤ (k : Int) * 2 := by omega
      have hkl : Hid (k < us.length) := by have := hl.out; show _ < _; omega
      have Hs := qh (snd_succ hkl.out)
      obtain ⟨b, o, A', m', c', rfl, lb, hc1, hc2, hmc, hrd⟩ := (H.out.below Hbel.out).at_ hlt
      have Hrd := qh hrd
      clear hrd
      generalize (us[k]?.getD (false, [])).2 = ts at *
      generalize (us[k]?.getD (false, [])).1 = op at *
      have sz : (wr.alloc (.cells #[.bool op, .slice A' m' c'] 32)).heap.size = wr.heap.size + 1 := World.size_alloc _ _
      have Own7 := qh (own_alloc (own_alloc Hown.out (.cells #[.bool op, .slice A' m' c'] 32)) (.cells #[.slice A' m' c'] 30))
      have hX := lit1 (wr.alloc (.cells #[.bool op, .slice A' m' c'] 32)) 30 (.slice A' m' c')
      rw [sz] at hX
      have X7 := qh hX
      have lz7 : w.heap.size ≤ ((wr.alloc (.cells #[.bool op, .slice A' m' c'] 32)).alloc (.cells #[.slice A' m' c'] 30)).heap.size := by rw [World.size_alloc, sz]; omega
      have U7 := qh (((Below.refl w.heap.size wr).alloc lz (.cells #[.bool op, .slice A' m' c'] 32)).alloc (by rw [sz]; omega) (.cells #[.slice A' m' c'] 30))
      clear hX sz
      go_wp2_with (at_builtin; refine wpList_append_src _ rfl _ _ 55 rfl w.heap.size 30 i0 _ 1 24 Tryz.underlying55 hi0 hz0 hz1 hz2 rfl (by omega) (.slice A6 m6 c6) m6 _ rfl Own7.out (some ⟨wr.heap.size + 1, 0, none⟩) 1 1 [.slice A' m' c'] rfl X7.out (one1 _ rfl) (by unfold maxLen; omega) (by omega) lz7 ?_; intro v' w8 hown8 hgrow8 hat8; obtain ⟨A8, c8, rfl⟩ := own_shape hown8)
      have up8 := U7.out.grown hgrow8 lz7 (fun j e => (Own7.out.lt j e).1)
      have Hb8 := qh (Hbel.out.trans up8)
      have Own8 := qh hown8
      have Hc8 := qh ((Hcs.out.snoc Hrd.out hmc).keep (fun p hp => up8.cell hp) (Nat.le_refl _))
      clear hown8 hgrow8 hat8 X7 up8
      go_wp2_with fail
      go_roundw
      case measure => simp [intOf]; omega
      case rel => exact ⟨k + 1, A8, m6 + 1, c8, _, by go_num, by omega, rfl, Hb8.out, Own8.out, by have := Hmk.out; omega, by rw [Hs.out]; exact Hc8.out⟩
    · obtain rfl : k = n2 := by omega
      go_wp2_with fail
      go_ret
      have hc := Hcs.out
      rw [List.take_of_length_le (by rw [hl.out]; exact Nat.le_refl _)] at hc
      exact ⟨A6, m6, c6, rfl, RdB.of_own Hown.out hc lz (by omega), Hbel.out⟩

set_option maxHeartbeats 800000 in
theorem badUnit_any (A : Option Addr) (m c : Nat) (op : Bool) (ts : List Tk) (w : World) (h : ts.length = m) (hm : m ≤ 9223372036854775807) :
    Calls Tryz.prog 44 #[.agg #[.bool op, .slice A m c]] w fun e w' => e = .returned (.bool (!unOk (op, ts))) ∧ Below w.heap.size w w' := by
  have hl := qh h
  clear h
  have B1 := qh (alloc_up w (.cells #[.bool op, .slice A m c] 32))
  have P1 := Blk.new w 32 #[.bool op, .slice A m c]
  have x0 := P1.cell 0
  have x1 := P1.cell 1
  simp only [gT, gZ, gS] at x0 x1
  cases op with
  | true =>
    go_enter Tryz.func44, Tryz.ntmps44
    go_wp2
    go_ret
    exact ⟨ret_bool (by simp [unOk]), B1.out⟩
  | false =>
    go_enter Tryz.func44, Tryz.ntmps44
    go_wp2
    go_ret
    refine ⟨ret_bool ?_, B1.out⟩
    rw [Bool.eq_iff_iff]
    simp only [unOk, Bool.false_or, Bool.not_eq_true', decide_eq_true_eq]
    rw [← Bool.not_eq_true, List.isEmpty_iff_length_eq_zero]
    have := hl.out
    omega

set_option maxHeartbeats 800000 in
theorem indexUnit_any (A : Option Addr) (n c : Nat) (us : List Un) (w : World) (h : RdN w w.heap.size A n us) :
    Calls Tryz.prog 75 #[.slice A n c, .func (.func 44) #[] #[]] w fun e w' => e = .returned (.int .i64 (idxP (fun u => !unOk u) us)) ∧ Below w.heap.size w w' := by
  have hn := h.le
  have hl := qh h.len
  have H := qh h
  clear h
  go_enter Tryz.func75, Tryz.ntmps75
  go_wp2
  go_loopw [8] (fun i wr => ∃ k : Nat, i = .int .i64 k ∧ k ≤ n ∧ Below w.heap.size w wr ∧ (∀ j, j < k → unOk (us[j]?.getD (false, [])) = true)) (fun i _ => n - (intOf i).toNat)
  case atStart => exact ⟨0, rfl, Nat.zero_le _, Below.refl _ _, by intro j hj; omega⟩
  case round =>
    obtain ⟨k, rfl, hk, hbel, hall⟩ := hrel
    have Hbel := qh hbel
    have Hall := qh hall
    clear hall hbel
    by_cases hlt : k < n
    · obtain ⟨b, o, A', m', c', rfl, lb, hc1, hc2, hmc, hrd⟩ := (H.out.below Hbel.out).at_ hlt
      have k1 : (0 : Int) ≤ (k : Int) := by omega
      have k2 : (k : Int) < (n : Int) := by omega
      have k3 : 0 ≤ (k : Int) * 2 := by omega
      have hcall := qh (badUnit_any A' m' c' (us[k]?.getD (false, [])).1 (us[k]?.getD (false, [])).2 wr hrd.len hrd.le)
      clear hrd
      cases hin : unOk (us[k]?.getD (false, [])) with
      | true =>
        have Hin := qh hin
        go_wp2_with (go_at_call 44; refine hcall.out.mono ?_; rintro e w' ⟨rfl, hb'⟩; rw [hin])
        go_roundw
        case rel => exact ⟨k + 1, by go_num, by omega, below_to Hbel.out hb', fun j hj => by
          by_cases e : j = k
          · rw [e]; exact Hin.out
          · exact Hall.out j (by omega)⟩
        case measure => simp [intOf]; omega
      | false =>
        have Hin := qh hin
        go_wp2_with (go_at_call 44; refine hcall.out.mono ?_; rintro e w' ⟨rfl, hb'⟩; rw [hin])
        go_ret
        exact ⟨ret_int (idxP_some (d := (false, [])) (by rw [hl.out]; exact hlt) (by simp [Hin.out]) (fun j hj => by simp [Hall.out j hj])).symm, below_to Hbel.out hb'⟩
    · go_wp2
      go_ret
      exact ⟨ret_int (idxP_none (d := (false, [])) (fun j hj => by simp [Hall.out j (by have := hl.out; omega)])).symm, Hbel.out⟩

set_option maxHeartbeats 400000 in
theorem containsUnit_any (A : Option Addr) (n c : Nat) (us : List Un) (w : World) (h : RdN w w.heap.size A n us) :
    Calls Tryz.prog 43 #[.slice A n c, .func (.func 44) #[] #[]] w fun e w' => e = .returned (.bool (us.any (fun u => !unOk u))) ∧ Below w.heap.size w w' := by
  have H := qh h
  clear h
  go_enter Tryz.func43, Tryz.ntmps43
  go_wp2_with (go_at_call 75; refine (indexUnit_any _ _ _ _ _ H.out).mono ?_; rintro e w' ⟨rfl, hb'⟩)
  go_ret
  exact ⟨ret_bool (idxP_ge _ _), hb'⟩

set_option maxRecDepth 100000 in
set_option maxHeartbeats 1600000 in
theorem clusterValidIV_any (A1 A2 : Option Addr) (n1 c1 n2 c2 : Nat) (room : List Int) (us : List Un) (w : World) (h : RdC w A1 A2 n1 n2 room us) (hs : ShV us) :
    Calls Tryz.prog 18 #[.agg #[.slice A1 n1 c1, .slice A2 n2 c2]] w fun e w' => e = .returned (.bool (clOk room us)) ∧ Below w.heap.size w w' := by
  have hl := qh h.b.len
  have H := qh h
  have Hs := qh hs
  have ln : n2 ≤ 1048576 := by have := h.b.len; have := hs.1; omega
  clear h hs
  have B1 := qh (alloc_up w (.cells #[.slice A1 n1 c1, .slice A2 n2 c2] 26))
  have P1 := qh (Blk.new w 26 #[.slice A1 n1 c1, .slice A2 n2 c2])
  have D1 := qh (B1.out.drew)
  have hk2 := qh (fun w' (hb : Below (w.heap.size + 1) (w.alloc (.cells #[.slice A1 n1 c1, .slice A2 n2 c2] 26)) w') => box_pair 26 w (.slice A1 n1 c1) (.slice A2 n2 c2) (w' := w') hb)
  have sz : (w.alloc (.cells #[.slice A1 n1 c1, .slice A2 n2 c2] 26)).heap.size = w.heap.size + 1 := World.size_alloc _ _
  rw [← sz] at hk2
  clear sz
  go_enter Tryz.func18, Tryz.ntmps18
  go_wp2_with fail
  generalize w.alloc (.cells #[.slice A1 n1 c1, .slice A2 n2 c2] 26) = w1 at B1 P1 D1 hk2 ⊢
  have K0 : (w1.drew.cell? ⟨w.heap.size, 0, none⟩ = some (.slice A1 n1 c1) ∧ w1.drew.cell? ⟨w.heap.size, 1, none⟩ = some (.slice A2 n2 c2)) := ⟨P1.out.cell 0, P1.out.cell 1⟩
  have H1 := qh (H.out.up D1.out)
  have hH := qh (fun w' (hb : Below w1.heap.size w1 w') => hk2.out w' hb)
  by_cases hin : inR 1 10 (n2 : Int) = true
  · refine wp_region_mix (.take 0 (.take 1 (.take 2 (.bar 3 (.take 4 (.take 5 (.take 6 (.take 7 (.take 8 (.bar 9 (.bar 10 (.take 11 (.take 12 .nil))))))))))))) (fun w' => w'.cell? ⟨w.heap.size, 0, none⟩ = some (.slice A1 n1 c1) ∧ w'.cell? ⟨w.heap.size, 1, none⟩ = some (.slice A2 n2 c2)) (by kernel_rfl) (by kernel_rfl) K0 (fun _ => ?_)
    clear K0
    repeat ((first | refine mxS (by rfl) (by rfl) ?_ | (refine mxT (v := ?_) (by rfl) (by rfl) (fun z y => ?_) ?_; rotate_left; (focus ((try dsimp only at y); (go_simp <;> with_reducible rfl); done)))); (try simp only [Act.put,pS,pZ,pC]))
    (refine mxB (by rfl) (fun K hK => ?_); go_simp)
    refine (within_any _ _ _ _).mono ?_; rintro e w2 ⟨rfl, rfl⟩
    rw [hin]
    ((try dsimp only); refine nxK hK _ _ (hH.out _ ((Below.refl _ _).drew)) ?_; clear hK K; (try simp only [Act.put,pS,pZ,pC]))
    repeat ((first | refine mxS (by rfl) (by rfl) ?_ | (refine mxT (v := ?_) (by rfl) (by rfl) (fun z y => ?_) ?_; rotate_left; (focus ((try dsimp only at y); (go_simp <;> with_reducible rfl); done)))); (try simp only [Act.put,pS,pZ,pC]))
    (refine mxB (by rfl) (fun K hK => ?_); go_simp)
    refine (bins_any A1 A2 n1 c1 n2 c2 us w1.drew H1.out.b ln).mono ?_; rintro e w3 ⟨A5, m5, c5, rfl, hr5, hb5⟩
    have Hr5 := qh hr5
    have Hb5 := qh hb5
    clear hr5 hb5
    ((try dsimp only); refine nxK hK _ _ (hH.out _ (below_to (Below.refl _ _).drew Hb5.out)) ?_; clear hK K; (try simp only [Act.put,pS,pZ,pC]))
    (refine mxB (by rfl) (fun K hK => ?_); go_simp)
    refine (binsValidI_any A1 A5 n1 c1 m5 c5 room _ w3 (H1.out.a.up Hb5.out) Hr5.out (Hs.out.2)).mono ?_; rintro e w4 ⟨rfl, hb6⟩
    have Hb6 := qh (below_to Hb5.out hb6)
    clear hb6
    cases hbo : binsOk room (us.map (·.2)) with
    | false =>
      have Hbo := qh hbo
      ((try dsimp only); refine nxK hK _ _ (hH.out _ (below_to (Below.refl _ _).drew Hb6.out)) ?_; clear hK K; (try simp only [Act.put,pS,pZ,pC]))
      repeat ((first | refine mxS (by rfl) (by rfl) ?_ | (refine mxT (v := ?_) (by rfl) (by rfl) (fun z y => ?_) ?_; rotate_left; (focus ((try dsimp only at y); (go_simp <;> with_reducible rfl); done)))); (try simp only [Act.put,pS,pZ,pC]))
      refine wpMix_nil ?_
      go_wp2_with fail
      go_ret
      exact ⟨ret_bool (by rw [clOk_unfold, Hbo.out]; simp), below_to D1.out Hb6.out⟩
    | true =>
      have Hbo := qh hbo
      ((try dsimp only); refine nxK hK _ _ (hH.out _ (below_to (Below.refl _ _).drew Hb6.out)) ?_; clear hK K; (try simp only [Act.put,pS,pZ,pC]))
      repeat ((first | refine mxS (by rfl) (by rfl) ?_ | (refine mxT (v := ?_) (by rfl) (by rfl) (fun z y => ?_) ?_; rotate_left; (focus ((try dsimp only at y); (go_simp <;> with_reducible rfl); done)))); (try simp only [Act.put,pS,pZ,pC]))
      refine wpMix_nil ?_
      obtain ⟨x0, x1⟩ := hH.out _ (below_to (Below.refl _ _).drew Hb6.out)
      go_wp2_with (go_at_call 43; refine (containsUnit_any A2 n2 c2 us w4 (H1.out.b.up Hb6.out)).mono ?_; rintro e w5 ⟨rfl, hb7⟩)
      go_ret
      refine ⟨ret_bool ?_, below_to D1.out (below_to Hb6.out hb7)⟩
      rw [clOk_unfold, Hbo.out, Bool.and_true, ← inR_len, hl.out, hin, Bool.true_and]
      simp [List.any_eq_not_all_not]
  · have hin : inR 1 10 (n2 : Int) = false := by simpa using hin
    refine wp_region_mix (.take 0 (.take 1 (.take 2 (.bar 3 (.take 4 (.take 5 (.take 6 (.take 7 (.take 8 (.take 9 (.take 10 (.take 11 (.take 12 .nil))))))))))))) (fun w' => w'.cell? ⟨w.heap.size, 0, none⟩ = some (.slice A1 n1 c1) ∧ w'.cell? ⟨w.heap.size, 1, none⟩ = some (.slice A2 n2 c2)) (by kernel_rfl) (by kernel_rfl) K0 (fun _ => ?_)
    clear K0
    repeat ((first | refine mxS (by rfl) (by rfl) ?_ | (refine mxT (v := ?_) (by rfl) (by rfl) (fun z y => ?_) ?_; rotate_left; (focus ((try dsimp only at y); (go_simp <;> with_reducible rfl); done)))); (try simp only [Act.put,pS,pZ,pC]))
    (refine mxB (by rfl) (fun K hK => ?_); go_simp)
    refine (within_any _ _ _ _).mono ?_; rintro e w2 ⟨rfl, rfl⟩
    rw [hin]
    ((try dsimp only); refine nxK hK _ _ (hH.out _ ((Below.refl _ _).drew)) ?_; clear hK K; (try simp only [Act.put,pS,pZ,pC]))
    repeat ((first | refine mxS (by rfl) (by rfl) ?_ | (refine mxT (v := ?_) (by rfl) (by rfl) (fun z y => ?_) ?_; rotate_left; (focus ((try dsimp only at y); (go_simp <;> with_reducible rfl); done)))); (try simp only [Act.put,pS,pZ,pC]))
    refine wpMix_nil ?_
    go_wp2
    go_ret
    exact ⟨ret_bool (by rw [clOk_unfold, ← inR_len, hl.out, hin, Bool.false_and, Bool.false_and]), D1.out⟩

theorem clusterValidI_any (A1 A2 : Option Addr) (n1 c1 n2 c2 : Nat) (room : List Int) (us : List Un) (w : World) (h : RdC w A1 A2 n1 n2 room us) (hs : ShU us) :
    Calls Tryz.prog 18 #[.agg #[.slice A1 n1 c1, .slice A2 n2 c2]] w fun e w' => e = .returned (.bool (clOk room us)) ∧ Below w.heap.size w w' := clusterValidIV_any A1 A2 n1 c1 n2 c2 room us w h hs.v

end Go.Proofs.YtlcgbnmmbheleaaGreat

namespace Go.Proofs.YtlcgbnmmbheleaaGreat
set_option linter.unusedSimpArgs false
set_option linter.unusedVariables false
open Go Go.RowKit

section
variable {P : Program} {ops : Array Oper} {Q : Exit → Act → World → Prop} {md : Region.Mode} {S : World → Prop} {Ls : List Nat}

def wpAnyL (P : Program) (md : Region.Mode) (ops : Array Oper) (Q : Exit → Act → World → Prop) (S : World → Prop) (Ls : List Nat) : Nat → Array Bool → Act → World → Prop
  | 0, listed, a, w => Region.ready md ops listed = [] ∧ Q .normal a w
  | fuel + 1, listed, a, w =>
    (Region.ready md ops listed = [] → Q .normal a w) ∧
    ∀ i ∈ Region.ready md ops listed, wpOp P ops Q i (fun a' w' => (i ∈ Ls ∨ S w') ∧ wpAnyL P md ops Q S Ls fuel (listed.setIfInBounds i true) a' w') a w
theorem wpAny_of_L : ∀ (fuel : Nat) (listed : Array Bool) (a : Act) (w : World), wpAnyL P md ops Q S Ls fuel listed a w → wpAny P md ops Q fuel listed a w
  | 0, _, _, _, h => h
  | fuel + 1, _, _, _, h => ⟨h.1, fun i hi => wpOp_mono (fun a' w' h' => wpAny_of_L fuel _ a' w' h'.2) (h.2 i hi)⟩

def ClosedL (md : Region.Mode) (ops : Array Oper) (listed : Array Bool) : Prop := ∀ j o, ops[j]? = some o → listed.getD j false = true → ∀ e ∈ o.after, Region.binds md e = true → listed.getD e.on false = true
theorem closed_set {listed : Array Bool} {j : Nat} (h : ClosedL md ops listed) (hj : j ∈ Region.ready md ops listed) : ClosedL md ops (listed.setIfInBounds j true) := by
  intro k o hk hl e he hb
  by_cases e1 : j = k
  · subst e1
    obtain ⟨_, o', ho', hall⟩ := mem_ready.1 hj
    rw [hk] at ho'
    injection ho' with ho'
    subst ho'
    exact getD_set_true (hall e he hb)
  · rw [getD_set_ne false e1] at hl
    exact getD_set_true (h k o hk hl e he hb)
def waitsL (md : Region.Mode) (ops : Array Oper) : Nat → Nat → Nat → Bool
  | 0, _, _ => false
  | f + 1, l, i => match ops[l]? with
    | none => true
    | some o => o.after.toList.any (fun e => Region.binds md e && (e.on == i || (decide (e.on < ops.size) && waitsL md ops f e.on i)))
theorem waits_listed {listed : Array Bool} {i : Nat} (h : ClosedL md ops listed) : ∀ (f l : Nat), l < ops.size → listed.getD l false = true → waitsL md ops f l i = true → listed.getD i false = true
  | 0, l, _, _, hw => by cases hw
  | f + 1, l, hlt, hl, hw => by
    unfold waitsL at hw
    rw [Array.getElem?_eq_getElem hlt] at hw
    simp only [List.any_eq_true, Bool.and_eq_true, Bool.or_eq_true, beq_iff_eq, decide_eq_true_eq] at hw
    obtain ⟨e, he, hb, hx⟩ := hw
    have he : e ∈ _ := Array.mem_toList_iff.1 he
    have h1 := h l _ (Array.getElem?_eq_getElem hlt) hl e he hb
    rcases hx with rfl | ⟨hx1, hx2⟩
    · exact h1
    · exact waits_listed h f e.on hx1 h1 hx2
theorem waits_ready {listed : Array Bool} {i l f : Nat} (h : ClosedL md ops listed) (hr : l ∈ Region.ready md ops listed) (hw : waitsL md ops (f + 1) l i = true) : listed.getD i false = true := by
  obtain ⟨_, o, ho, hall⟩ := mem_ready.1 hr
  unfold waitsL at hw
  rw [ho] at hw
  simp only [List.any_eq_true, Bool.and_eq_true, Bool.or_eq_true, beq_iff_eq, decide_eq_true_eq] at hw
  obtain ⟨e, he, hb, hx⟩ := hw
  have he : e ∈ _ := Array.mem_toList_iff.1 he
  have h1 := hall e he hb
  rcases hx with rfl | ⟨hx1, hx2⟩
  · exact h1
  · exact waits_listed h f e.on hx1 h1 hx2
theorem getD_both {listed : Array Bool} {i : Nat} (h : listed.getD i true = false) : listed.getD i false = false := by
  simp only [Array.getD_eq_getD_getElem?] at h ⊢
  cases hh : listed[i]? with
  | none => rfl
  | some b => rw [hh] at h; exact h

theorem wpAnyL_first {i : Nat} {oi : Oper} {v : Value} (hi : ops[i]? = some oi) (hsel : ∀ (j : Nat) (o : Oper) cs b, ops[j]? = some o → o.op ≠ .select cs b)
    (hQ : ∀ c a w, Q (.panic c) (a.put oi.dst v) w → Q (.panic c) a w) (hL : ∀ l ∈ Ls, l ≠ i → waitsL md ops (ops.size + 1) l i = true) :
    ∀ (fuel : Nat) (listed : Array Bool) (a : Act) (w : World), ClosedL md ops listed →
      (∀ j oj, ops[j]? = some oj → j ≠ i → listed.getD j true = false → (∀ e ∈ oj.after, Region.binds md e = true → e.on ≠ i) → oi.apart ops oj = true) →
      i ∈ Region.ready md ops listed → YieldsIf P ops S oi v a → S w →
      wpAnyL P md ops Q S Ls fuel (listed.setIfInBounds i true) (a.put oi.dst v) w → wpAnyL P md ops Q S Ls (fuel + 1) listed a w := by
  intro fuel
  induction fuel with
  | zero =>
    intro listed a w _ _ hr hy hS H
    refine ⟨fun h => (by rw [h] at hr; cases hr), fun j hj => ?_⟩
    by_cases hji : j = i
    · subst hji; exact hy.wpOp hi hS ⟨.inr hS, H⟩
    · have := ready_mono hj hji
      rw [H.1] at this
      cases this
  | succ fuel ih =>
    intro listed a w hcl hfree hr hy hS H
    refine ⟨fun h => (by rw [h] at hr; cases hr), fun j hj => ?_⟩
    by_cases hji : j = i
    · subst hji; exact hy.wpOp hi hS ⟨.inr hS, H⟩
    · have h1 := H.2 j (ready_mono hj hji)
      obtain ⟨hjun, oj, hoj, hall⟩ := mem_ready.1 hj
      have hiun := getD_both (mem_ready.1 hr).1
      have hjL : j ∉ Ls := fun hm => by
        have := waits_ready hcl hj (hL j hm hji)
        rw [hiun] at this; cases this
      have hnot : ∀ e ∈ oj.after, Region.binds md e = true → e.on ≠ i := fun e he hb heq => by
        have h1 := hall e he hb
        rw [heq, hiun] at h1
        cases h1
      have h2 := wpOp_putIf hoj (hfree j oj hoj hji hjun hnot) (fun cs b => hsel i oi cs b hi) (fun cs b => hsel j oj cs b hoj) hQ hy h1
      have hfree' : ∀ k ok, ops[k]? = some ok → k ≠ i → (listed.setIfInBounds j true).getD k true = false →
          (∀ e ∈ ok.after, Region.binds md e = true → e.on ≠ i) → oi.apart ops ok = true := fun k ok hk hki hun hno => by
        refine hfree k ok hk hki ?_ hno
        by_cases hjk : j = k
        · subst hjk; exact hjun
        · rw [getD_set_ne true hjk] at hun; exact hun
      refine wpOp_mono (fun a' w' h3 => ⟨h3.2.1, ih (listed.setIfInBounds j true) a' w' (closed_set hcl hj) hfree' (ready_mono hr (Ne.symm hji)) h3.1 (h3.2.1.resolve_left hjL) ?_⟩) h2
      rw [Array.setIfInBounds_comm _ _ hji]
      exact h3.2.2

inductive MixL where
  | nil
  | take (i : Nat) (r : MixL)
  | bar (i : Nat) (r : MixL)
  | last (i : Nat) (r : MixL)
  | fork (i : Nat) (r : MixL) (j : Nat) (s : MixL)
def lexMixL (Ls : List Nat) (ops : Array Oper) : MixL → Bool → Nat → Array Bool → Bool
  | .nil, _, _, listed => (Region.ready .any ops listed).isEmpty
  | .take i r, b, f, listed => b && (decide (0 < f) && ((Region.ready .any ops listed).contains i && Region.free .any ops listed i) && (Ls.all (fun l => l == i || waitsL .any ops (ops.size + 1) l i) && lexMixL Ls ops r b (f - 1) (listed.setIfInBounds i true)))
  | .bar i r, _, f, listed => decide (0 < f) && decide (Region.ready .any ops listed = [i]) && lexMixL Ls ops r true (f - 1) (listed.setIfInBounds i true)
  | .last i r, _, f, listed => decide (0 < f) && decide (Region.ready .any ops listed = [i]) && (Ls.contains i && lexMixL Ls ops r false (f - 1) (listed.setIfInBounds i true))
  | .fork i r j s, _, f, listed => decide (0 < f) && decide (Region.ready .any ops listed = [i, j]) && (lexMixL Ls ops r true (f - 1) (listed.setIfInBounds i true) && lexMixL Ls ops s true (f - 1) (listed.setIfInBounds j true))
def mixLOk (Ls : List Nat) (ops : Array Oper) (ord : MixL) : Bool := Region.noSelect ops && lexMixL Ls ops ord true ops.size (Array.replicate ops.size false)
def wpMixL (P : Program) (ops : Array Oper) (Q : Exit → Act → World → Prop) (S : World → Prop) : MixL → Act → World → Prop
  | .nil, a, w => Q .normal a w
  | .take i r, a, w => ∃ o v, ops[i]? = some o ∧ YieldsIf P ops S o v a ∧ wpMixL P ops Q S r (a.put o.dst v) w
  | .bar i r, a, w => wpOp P ops Q i (fun a' w' => S w' ∧ wpMixL P ops Q S r a' w') a w
  | .last i r, a, w => wpOp P ops Q i (fun a' w' => wpMixL P ops Q S r a' w') a w
  | .fork i r j s, a, w => wpOp P ops Q i (fun a' w' => S w' ∧ wpMixL P ops Q S r a' w') a w ∧ wpOp P ops Q j (fun a' w' => S w' ∧ wpMixL P ops Q S s a' w') a w
theorem wpAnyL_mix (hsel : Region.noSelect ops = true) (hQ : ∀ c a a' w, Q (.panic c) a w → Q (.panic c) a' w) : ∀ (ord : MixL) (b : Bool) (f : Nat) (listed : Array Bool) (a : Act) (w : World),
    lexMixL Ls ops ord b f listed = true → ClosedL .any ops listed → (b = true → S w) → wpMixL P ops Q S ord a w → wpAnyL P .any ops Q S Ls f listed a w
  | .nil, b, f, listed, _, _, hB, _, _, h => by
    have hr : Region.ready .any ops listed = [] := by simpa [lexMixL] using hB
    cases f with
    | zero => exact ⟨hr, h⟩
    | succ f => exact ⟨fun _ => h, by rw [hr]; simp⟩
  | .take i r, b, f, listed, a, w, hB, hC, hS, h => by
    simp only [lexMixL, Bool.and_eq_true, decide_eq_true_eq, List.all_eq_true, Bool.or_eq_true, beq_iff_eq] at hB
    obtain ⟨hb, ⟨hf, hcon, hfr⟩, hwt, hrest⟩ := hB
    obtain ⟨f, rfl⟩ : ∃ g, f = g + 1 := ⟨f - 1, by omega⟩
    obtain ⟨o, v, h0, hy, hK⟩ := h
    have hr : i ∈ Region.ready .any ops listed := by simpa using hcon
    exact wpAnyL_first h0 (Region.noSelect_spec hsel) (fun c a' w' hq => hQ c _ _ w' hq) (fun l hl hne => (hwt l hl).resolve_left hne) f listed a w hC (Region.free_spec h0 hfr) hr hy (hS hb)
      (wpAnyL_mix hsel hQ r b _ _ _ w hrest (closed_set hC hr) hS hK)
  | .bar i r, b, f, listed, a, w, hB, hC, hS, h => by
    simp only [lexMixL, Bool.and_eq_true, decide_eq_true_eq] at hB
    obtain ⟨f, rfl⟩ : ∃ g, f = g + 1 := ⟨f - 1, by omega⟩
    refine ⟨fun h0 => (by rw [hB.1.2] at h0; cases h0), fun j hj => ?_⟩
    have : j = i := by rw [hB.1.2] at hj; simpa using hj
    subst this
    exact wpOp_mono (fun a' w' hh => ⟨.inr hh.1, wpAnyL_mix hsel hQ r true _ _ a' w' hB.2 (closed_set hC hj) (fun _ => hh.1) hh.2⟩) h
  | .last i r, b, f, listed, a, w, hB, hC, hS, h => by
    simp only [lexMixL, Bool.and_eq_true, decide_eq_true_eq] at hB
    obtain ⟨f, rfl⟩ : ∃ g, f = g + 1 := ⟨f - 1, by omega⟩
    refine ⟨fun h0 => (by rw [hB.1.2] at h0; cases h0), fun j hj => ?_⟩
    have : j = i := by rw [hB.1.2] at hj; simpa using hj
    subst this
    exact wpOp_mono (fun a' w' hh => ⟨.inl (by simpa using hB.2.1), wpAnyL_mix hsel hQ r false _ _ a' w' hB.2.2 (closed_set hC hj) (fun h => by cases h) hh⟩) h
  | .fork i r j s, b, f, listed, a, w, hB, hC, hS, h => by
    simp only [lexMixL, Bool.and_eq_true, decide_eq_true_eq] at hB
    obtain ⟨f, rfl⟩ : ∃ g, f = g + 1 := ⟨f - 1, by omega⟩
    refine ⟨fun h0 => (by rw [hB.1.2] at h0; cases h0), fun k hk => ?_⟩
    have hk' := hk
    rw [hB.1.2] at hk'
    rcases List.mem_cons.1 hk' with rfl | hk'
    · exact wpOp_mono (fun a' w' hh => ⟨.inr hh.1, wpAnyL_mix hsel hQ r true _ _ a' w' hB.2.1 (closed_set hC hk) (fun _ => hh.1) hh.2⟩) h.1
    · have : k = j := by simpa using hk'
      subst this
      exact wpOp_mono (fun a' w' hh => ⟨.inr hh.1, wpAnyL_mix hsel hQ s true _ _ a' w' hB.2.2 (closed_set hC hk) (fun _ => hh.1) hh.2⟩) h.2
theorem wp_region_mixL {id : Nat} {Q' : Exit → Act → World → Prop} {a : Act} {w : World} {l : List Oper} (ord : MixL) (Ls : List Nat) (S : World → Prop) (hm : P.follows .mixedOrders = true) (hB : mixLOk Ls l.toArray ord = true) (hS : S w.drew)
    (h : S w.drew → wpMixL P l.toArray (NoPanic Q') S ord a w.drew) : (Code.region id l.toArray true).wp P Q' a w := by
  simp only [mixLOk, Bool.and_eq_true] at hB
  refine wp_region_noPanic (wp_region_any hm (wpAny_of_L (S := S) (Ls := Ls) _ _ _ _ ?_))
  exact wpAnyL_mix (Q := NoPanic Q') (S := S) (Ls := Ls) hB.1 (fun c a a' w hq => (hq : False).elim) ord true _ (Array.replicate l.toArray.size false) a w.drew hB.2 (fun j o hj hl => by
    exfalso
    simp only [Array.getD_eq_getD_getElem?] at hl
    rw [Array.getElem?_replicate] at hl
    split at hl <;> simp at hl) (fun _ => hS) (h hS)

theorem lxT {i : Nat} {o : Oper} {tl : List Oper} {r : MixL} {a : Act} {w : World} {v : Value} (ho : ops.toList.drop i = o :: tl) (hw : Region.wanted o (yielded ops a.tmps) = true) (hy : ∀ w', S w' → (execOp a.eval o).run P w' = .ok (.value v) w')
    (h : wpMixL P ops Q S r (a.put o.dst v) w) : wpMixL P ops Q S (.take i r) a w := ⟨o, v, mix_at ho, .inl ⟨hw, hy⟩, h⟩
theorem lxS {i : Nat} {o : Oper} {tl : List Oper} {r : MixL} {a : Act} {w : World} (ho : ops.toList.drop i = o :: tl) (hw : Region.wanted o (yielded ops a.tmps) = false)
    (h : wpMixL P ops Q S r (a.put o.dst undef) w) : wpMixL P ops Q S (.take i r) a w := ⟨o, undef, mix_at ho, .inr ⟨hw, rfl⟩, h⟩
theorem lxB {i : Nat} {o : Oper} {tl : List Oper} {r : MixL} {a : Act} {w : World} (ho : ops.toList.drop i = o :: tl)
    (h : ∀ K : Act → World → Prop, Shut (∀ a w, S w → (S w → wpMixL P ops Q S r a w) → K a w) → if Region.wanted o (yielded ops a.tmps) = true then Oper.wp P o a w K Q else K (a.put o.dst undef) w) : wpMixL P ops Q S (.bar i r) a w :=
  wpOp_step (mix_at ho) (fun K' hK => h K' (fun a w hS hW => hK a w ⟨hS, hW hS⟩))
theorem wpMixL_last {i : Nat} {o : Oper} {tl : List Oper} {r : MixL} {a : Act} {w : World} (ho : ops.toList.drop i = o :: tl)
    (h : ∀ K : Act → World → Prop, Shut (∀ a w, wpMixL P ops Q S r a w → K a w) → if Region.wanted o (yielded ops a.tmps) = true then Oper.wp P o a w K Q else K (a.put o.dst undef) w) : wpMixL P ops Q S (.last i r) a w :=
  wpOp_step (mix_at ho) (fun K' hK => h K' (fun a w hW => hK a w hW))
theorem wpMixL_nil {Q' : Exit → Act → World → Prop} {a : Act} {w : World} (h : Q' .normal a w) : wpMixL P ops (NoPanic Q') S .nil a w := h
end
end Go.Proofs.YtlcgbnmmbheleaaGreat
