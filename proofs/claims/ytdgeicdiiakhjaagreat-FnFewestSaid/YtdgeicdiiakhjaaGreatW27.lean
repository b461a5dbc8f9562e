/- Several texts in one. -/
import Derived.Test.YtdgeicdiiakhjaaGreatW25
import Derived.Test.YtdgeicdiiakhjaaGreatW26
import Derived.Deep.LoopGhost
import Derived.WalkMore
namespace Go.Proofs.YtdgeicdiiakhjaaGreat
set_option linter.unusedSimpArgs false
set_option linter.unusedVariables false
open Go Go.RowKit
attribute [local go_sem ↓] Go.wp_at_zero Go.wp_at_succ

theorem tasksOk_nodup {room : List Int} {ts : List Tk} (h : tasksOk room ts = true) : (ts.map (·.1)).Nodup := by
  simp only [tasksOk, Bool.and_eq_true, decide_eq_true_eq] at h
  exact h.2

set_option maxRecDepth 100000 in
set_option maxHeartbeats 3200000 in
theorem allFirstI_any (A1 A : Option Addr) (n1 c1 n c : Nat) (room : List Int) (ts : List Tk) (w : World) (h1 : RdI w w.heap.size A1 n1 room) (h : RdT w w.heap.size A n ts) (hok : tasksOk room ts = true) :
    Calls Tryz.prog 32 #[.func (.func 31) #[] #[], .slice A1 n1 c1, .slice A n c] w fun e w' => ∃ A' m c', e = .returned (.slice A' m c') ∧ OwnBR w' w.heap.size (.slice A' m c') m (allB (firstB room) ts) ∧ Below w.heap.size w w' := by
  have H1 := qh h1
  have H := qh h
  have Hl := qh h.len
  have Hok := qh hok
  have hn14 : n ≤ 14 := by rw [← h.len]; exact tasksOk_len hok
  have hn1 : 3 ≤ n1 := by have := h1.len; have := roomOk_len hok; omega
  have Hrm := qh (room_bd hok)
  clear h1 h hok
  have O0 := qh (show (w.alloc (.cells #[] 24)).ownsRow w.heap.size 24 1 (.slice (some ⟨w.heap.size, 0, none⟩) 0 0) 0 [] from World.ownsRow_made w #[] 0 (Nat.le_refl _) (by unfold maxLen; omega) rfl)
  have B0 := qh (alloc_up w (.cells #[] 24))
  go_enter Tryz.func32, Tryz.ntmps32
  go_wp2_with fail
  go_loopw [7, 13] (fun v i wr => ∃ (k m cc : Nat) (Ab : Option Addr), i = .int .i64 (k : Int) ∧ k ≤ n ∧ v = .slice Ab m cc ∧ OwnBR wr w.heap.size (.slice Ab m cc) m (allB (firstB room) (ts.take k)) ∧ Below w.heap.size w wr) (fun _ i _ => n - (intOf i).toNat)
  case atStart => exact ⟨0, 0, 0, _, rfl, Nat.zero_le _, rfl, ⟨[], O0.out, NdBR.nil⟩, B0.out⟩
  case round =>
    clear O0 B0
    obtain ⟨k, m, cc, Ab, rfl, hk, rfl, hO, hB⟩ := hrel
    have hS := all_small (first_tells room) Hok.out k
    rw [obr_len hO] at hS
    have HS := qh hS
    have HO := qh hO
    have HB := qh hB
    have lz := hB.size
    have hm14 : m ≤ 14 := hS.1
    clear hS hO hB
    by_cases hlt : k < n
    · obtain ⟨bt, ot, Ax, mx, cx, rfl, lt, ht0, ht1, hcx, hrx⟩ := (H.out.up HB.out).at_ hlt
      have hn3 := need3 Hok.out (k := k) (by have := Hl.out; omega)
      have HT := qh (all_take (c := firstB room) (ts := ts) (k := k) (by have := Hl.out; omega))
      have HTL := qh (first_tells room (allB (firstB room) (ts.take k)) (ts[k]?.getD (0, [])))
      generalize ts[k]?.getD (0, []) = tj at *
      obtain ⟨tid, txs⟩ := tj
      dsimp only at ht0 hrx hn3
      obtain rfl : mx = 3 := by have := hrx.len; omega
      have HX := qh hrx
      have H3 := qh hn3
      clear hrx hn3
      have k1 : (0 : Int) ≤ (k : Int) := by omega
      have k2 : (k : Int) < (n : Int) := by omega
      have k3 : 0 ≤ (k : Int) * 2 := by omega
      generalize allB (firstB room) (ts.take k) = bs at *
      have al := qh (alloc_up wr (.cells #[.int .i64 tid, .slice Ax 3 cx] 43))
      have P5 := qh (Blk.new wr 43 #[.int .i64 tid, .slice Ax 3 cx])
      go_wp2_with fail
      generalize hgx : wr.heap.size = gx at P5 ⊢
      generalize wr.alloc (.cells #[.int .i64 tid, .slice Ax 3 cx] 43) = w5 at al P5 ⊢
      have lgx := P5.out.lt
      have D0 := qh al.out.drew
      have P0 := qh P5.out.drew
      have hS := qh (fun (w' : World) (hb : w'.heap[gx]? = w5.drew.heap[gx]?) => (⟨(World.cell?_of_block (a := ⟨gx, 0, none⟩) hb).trans (P0.out.cell 0), (World.cell?_of_block (a := ⟨gx, 1, none⟩) hb).trans (P0.out.cell 1)⟩ : w'.cell? ⟨gx, 0, none⟩ = some (.int .i64 tid) ∧ w'.cell? ⟨gx, 1, none⟩ = some (.slice Ax 3 cx)))
      refine wp_region_mix (.take 0 (.take 1 (.take 2 (.take 3 (.take 4 (.take 6 (.bar 5 (.bar 7 (.take 8 .nil))))))))) (fun w' => w'.cell? ⟨gx, 0, none⟩ = some (.int .i64 tid) ∧ w'.cell? ⟨gx, 1, none⟩ = some (.slice Ax 3 cx)) (by kernel_rfl) (by kernel_rfl) (hS.out _ rfl) (fun _ => ?_)
      have lx0 : gx < w5.drew.heap.size := lgx
      generalize w5.drew = u0 at D0 hS lx0 ⊢
      clear al P5 P0 ht0 ht1
      repeat ((first | refine wpMix_skip (by rfl) (by rfl) ?_ | (refine wpMix_take (v := ?_) (by rfl) (by rfl) (fun wS hSt => ?_) ?_; rotate_left; (focus ((try dsimp only at hSt); (go_simp <;> with_reducible rfl); done)))); (try simp only [Act.put, pS, pZ, pC]))
      (refine wpMix_bar (by rfl) (fun K hK => ?_); go_simp)
      refine (firstOf_any A1 Ab Ax n1 c1 m cc cx room bs tid txs u0 ((H1.out.up HB.out).up D0.out) (HO.out.rd.up D0.out) (HX.out.up D0.out) hn1 (fun j hj => ⟨by have := (HS.out.2 j hj).1; omega, (HS.out.2 j hj).2⟩) (fun j hj => by have := H3.out.2 j; omega)).mono ?_; rintro e u1 ⟨rfl, hb⟩
      have D1 := qh (D0.out.trans (hb.mono D0.out.size))
      have e51 := qh (hb.block gx lx0)
      have lx1 : gx < u1.heap.size := by have := hb.size; omega
      ((try dsimp only); refine nxK hK _ _ (hS.out _ e51.out) ?_; clear hK K; (try simp only [Act.put, pS, pZ, pC]))
      clear hb
      refine wpMix_bar (by rfl) (fun K hK => ?_)
      rw [if_pos (by rfl)]
      rcases HTL.out with hf | ⟨i, hi, hf, _⟩
      · have e1 : putB bs (firstB room bs (tid, txs)) (tid, txs) = bs ++ [[(tid, txs)]] := by rw [hf]; rfl
        rw [e1] at HT
        replace hf : firstP room bs txs = _ := hf
        rw [hf]
        go_simp
        refine (placedN_any w.heap.size Ab Ax m cc cx bs tid txs wr u1 HO.out D1.out lz (by omega) (HX.out.up D1.out)).mono ?_; rintro e u2 ⟨A9, c9, rfl, hO9, hb, hkp⟩
        have D2 := qh hb
        have HO9 := qh hO9
        have e52 := qh ((hkp gx (by omega) lx1).trans e51.out)
        have BB := qh (HB.out.trans ((D1.out.mono lz).trans hb))
        ((try dsimp only); refine nxK hK _ _ (hS.out _ e52.out) ?_; clear hK K; (try simp only [Act.put, pS, pZ, pC]))
        clear hb hO9 hkp
        repeat ((first | refine wpMix_skip (by rfl) (by rfl) ?_ | (refine wpMix_take (v := ?_) (by rfl) (by rfl) (fun wS hSt => ?_) ?_; rotate_left; (focus ((try dsimp only at hSt); (go_simp <;> with_reducible rfl); done)))); (try simp only [Act.put, pS, pZ, pC]))
        refine wpMix_nil ?_
        go_wp2_with fail
        go_roundw
        case measure => simp [intOf]; omega
        case rel => exact ⟨k + 1, m + 1, c9, A9, by go_num, by omega, rfl, by rw [HT.out]; exact HO9.out, BB.out⟩
      · have e1 : putB bs (firstB room bs (tid, txs)) (tid, txs) = putAt bs i (tid, txs) := by rw [hf]; unfold putB putAt; rw [if_neg (by omega), Int.toNat_natCast]
        rw [e1] at HT
        have him : i < m := by have := obr_len HO.out; omega
        replace hf : firstP room bs txs = _ := hf
        rw [hf]
        go_simp
        refine (placed_any w.heap.size i Ab Ax m cc cx bs tid txs wr u1 HO.out D1.out lz (by omega) him (by have := (HS.out.2 i him).1; omega) (HX.out.up D1.out)).mono ?_; rintro e u2 ⟨rfl, hO9, hb, hkp⟩
        have D2 := qh hb
        have HO9 := qh hO9
        have e52 := qh ((hkp gx (by omega) lx1).trans e51.out)
        have BB := qh (HB.out.trans ((D1.out.mono lz).trans hb))
        ((try dsimp only); refine nxK hK _ _ (hS.out _ e52.out) ?_; clear hK K; (try simp only [Act.put, pS, pZ, pC]))
        clear hb hO9 hkp
        repeat ((first | refine wpMix_skip (by rfl) (by rfl) ?_ | (refine wpMix_take (v := ?_) (by rfl) (by rfl) (fun wS hSt => ?_) ?_; rotate_left; (focus ((try dsimp only at hSt); (go_simp <;> with_reducible rfl); done)))); (try simp only [Act.put, pS, pZ, pC]))
        refine wpMix_nil ?_
        go_wp2_with fail
        go_roundw
        case measure => simp [intOf]; omega
        case rel => exact ⟨k + 1, m, cc, Ab, by go_num, by omega, rfl, by rw [HT.out]; exact HO9.out, BB.out⟩
    · obtain rfl : k = n := by omega
      rw [List.take_of_length_le (by have := Hl.out; omega)] at HO
      go_wp2_with fail
      go_ret
      exact ⟨_, _, _, rfl, HO.out, HB.out⟩

set_option maxRecDepth 100000 in
set_option maxHeartbeats 3200000 in
theorem allBestI_any (A1 A : Option Addr) (n1 c1 n c : Nat) (room : List Int) (ts : List Tk) (w : World) (h1 : RdI w w.heap.size A1 n1 room) (h : RdT w w.heap.size A n ts) (hok : tasksOk room ts = true) :
    Calls Tryz.prog 32 #[.func (.func 33) #[] #[], .slice A1 n1 c1, .slice A n c] w fun e w' => ∃ A' m c', e = .returned (.slice A' m c') ∧ OwnBR w' w.heap.size (.slice A' m c') m (allB (bestB room) ts) ∧ Below w.heap.size w w' := by
  have H1 := qh h1
  have H := qh h
  have Hl := qh h.len
  have Hok := qh hok
  have hn14 : n ≤ 14 := by rw [← h.len]; exact tasksOk_len hok
  have hn1 : 3 ≤ n1 := by have := h1.len; have := roomOk_len hok; omega
  have Hrm := qh (room_bd hok)
  clear h1 h hok
  have O0 := qh (show (w.alloc (.cells #[] 24)).ownsRow w.heap.size 24 1 (.slice (some ⟨w.heap.size, 0, none⟩) 0 0) 0 [] from World.ownsRow_made w #[] 0 (Nat.le_refl _) (by unfold maxLen; omega) rfl)
  have B0 := qh (alloc_up w (.cells #[] 24))
  go_enter Tryz.func32, Tryz.ntmps32
  go_wp2_with fail
  go_loopw [7, 13] (fun v i wr => ∃ (k m cc : Nat) (Ab : Option Addr), i = .int .i64 (k : Int) ∧ k ≤ n ∧ v = .slice Ab m cc ∧ OwnBR wr w.heap.size (.slice Ab m cc) m (allB (bestB room) (ts.take k)) ∧ Below w.heap.size w wr) (fun _ i _ => n - (intOf i).toNat)
  case atStart => exact ⟨0, 0, 0, _, rfl, Nat.zero_le _, rfl, ⟨[], O0.out, NdBR.nil⟩, B0.out⟩
  case round =>
    clear O0 B0
    obtain ⟨k, m, cc, Ab, rfl, hk, rfl, hO, hB⟩ := hrel
    have hS := all_small (best_tells room) Hok.out k
    rw [obr_len hO] at hS
    have HS := qh hS
    have HO := qh hO
    have HB := qh hB
    have lz := hB.size
    have hm14 : m ≤ 14 := hS.1
    clear hS hO hB
    by_cases hlt : k < n
    · obtain ⟨bt, ot, Ax, mx, cx, rfl, lt, ht0, ht1, hcx, hrx⟩ := (H.out.up HB.out).at_ hlt
      have hn3 := need3 Hok.out (k := k) (by have := Hl.out; omega)
      have HT := qh (all_take (c := bestB room) (ts := ts) (k := k) (by have := Hl.out; omega))
      have HTL := qh (best_tells room (allB (bestB room) (ts.take k)) (ts[k]?.getD (0, [])))
      generalize ts[k]?.getD (0, []) = tj at *
      obtain ⟨tid, txs⟩ := tj
      dsimp only at ht0 hrx hn3
      obtain rfl : mx = 3 := by have := hrx.len; omega
      have HX := qh hrx
      have H3 := qh hn3
      clear hrx hn3
      have k1 : (0 : Int) ≤ (k : Int) := by omega
      have k2 : (k : Int) < (n : Int) := by omega
      have k3 : 0 ≤ (k : Int) * 2 := by omega
      generalize allB (bestB room) (ts.take k) = bs at *
      have al := qh (alloc_up wr (.cells #[.int .i64 tid, .slice Ax 3 cx] 43))
      have P5 := qh (Blk.new wr 43 #[.int .i64 tid, .slice Ax 3 cx])
      go_wp2_with fail
      generalize hgx : wr.heap.size = gx at P5 ⊢
      generalize wr.alloc (.cells #[.int .i64 tid, .slice Ax 3 cx] 43) = w5 at al P5 ⊢
      have lgx := P5.out.lt
      have D0 := qh al.out.drew
      have P0 := qh P5.out.drew
      have hS := qh (fun (w' : World) (hb : w'.heap[gx]? = w5.drew.heap[gx]?) => (⟨(World.cell?_of_block (a := ⟨gx, 0, none⟩) hb).trans (P0.out.cell 0), (World.cell?_of_block (a := ⟨gx, 1, none⟩) hb).trans (P0.out.cell 1)⟩ : w'.cell? ⟨gx, 0, none⟩ = some (.int .i64 tid) ∧ w'.cell? ⟨gx, 1, none⟩ = some (.slice Ax 3 cx)))
      refine wp_region_mix (.take 0 (.take 1 (.take 2 (.take 3 (.take 4 (.take 6 (.bar 5 (.bar 7 (.take 8 .nil))))))))) (fun w' => w'.cell? ⟨gx, 0, none⟩ = some (.int .i64 tid) ∧ w'.cell? ⟨gx, 1, none⟩ = some (.slice Ax 3 cx)) (by kernel_rfl) (by kernel_rfl) (hS.out _ rfl) (fun _ => ?_)
      have lx0 : gx < w5.drew.heap.size := lgx
      generalize w5.drew = u0 at D0 hS lx0 ⊢
      clear al P5 P0 ht0 ht1
      repeat ((first | refine wpMix_skip (by rfl) (by rfl) ?_ | (refine wpMix_take (v := ?_) (by rfl) (by rfl) (fun wS hSt => ?_) ?_; rotate_left; (focus ((try dsimp only at hSt); (go_simp <;> with_reducible rfl); done)))); (try simp only [Act.put, pS, pZ, pC]))
      (refine wpMix_bar (by rfl) (fun K hK => ?_); go_simp)
      refine (bestOf_any A1 Ab Ax n1 c1 m cc cx room bs tid txs u0 ((H1.out.up HB.out).up D0.out) (HO.out.rd.up D0.out) (HX.out.up D0.out) hn1 (fun j hj => ⟨by have := (HS.out.2 j hj).1; omega, (HS.out.2 j hj).2⟩) (fun j hj => by have := H3.out.2 j; omega) Hrm.out).mono ?_; rintro e u1 ⟨rfl, hb⟩
      have D1 := qh (D0.out.trans (hb.mono D0.out.size))
      have e51 := qh (hb.block gx lx0)
      have lx1 : gx < u1.heap.size := by have := hb.size; omega
      ((try dsimp only); refine nxK hK _ _ (hS.out _ e51.out) ?_; clear hK K; (try simp only [Act.put, pS, pZ, pC]))
      clear hb
      refine wpMix_bar (by rfl) (fun K hK => ?_)
      rw [if_pos (by rfl)]
      rcases HTL.out with hf | ⟨i, hi, hf, _⟩
      · have e1 : putB bs (bestB room bs (tid, txs)) (tid, txs) = bs ++ [[(tid, txs)]] := by rw [hf]; rfl
        rw [e1] at HT
        have _h0 := 0
        rw [hf]
        go_simp
        refine (placedN_any w.heap.size Ab Ax m cc cx bs tid txs wr u1 HO.out D1.out lz (by omega) (HX.out.up D1.out)).mono ?_; rintro e u2 ⟨A9, c9, rfl, hO9, hb, hkp⟩
        have D2 := qh hb
        have HO9 := qh hO9
        have e52 := qh ((hkp gx (by omega) lx1).trans e51.out)
        have BB := qh (HB.out.trans ((D1.out.mono lz).trans hb))
        ((try dsimp only); refine nxK hK _ _ (hS.out _ e52.out) ?_; clear hK K; (try simp only [Act.put, pS, pZ, pC]))
        clear hb hO9 hkp
        repeat ((first | refine wpMix_skip (by rfl) (by rfl) ?_ | (refine wpMix_take (v := ?_) (by rfl) (by rfl) (fun wS hSt => ?_) ?_; rotate_left; (focus ((try dsimp only at hSt); (go_simp <;> with_reducible rfl); done)))); (try simp only [Act.put, pS, pZ, pC]))
        refine wpMix_nil ?_
        go_wp2_with fail
        go_roundw
        case measure => simp [intOf]; omega
        case rel => exact ⟨k + 1, m + 1, c9, A9, by go_num, by omega, rfl, by rw [HT.out]; exact HO9.out, BB.out⟩
      · have e1 : putB bs (bestB room bs (tid, txs)) (tid, txs) = putAt bs i (tid, txs) := by rw [hf]; unfold putB putAt; rw [if_neg (by omega), Int.toNat_natCast]
        rw [e1] at HT
        have him : i < m := by have := obr_len HO.out; omega
        have _h0 := 0
        rw [hf]
        go_simp
        refine (placed_any w.heap.size i Ab Ax m cc cx bs tid txs wr u1 HO.out D1.out lz (by omega) him (by have := (HS.out.2 i him).1; omega) (HX.out.up D1.out)).mono ?_; rintro e u2 ⟨rfl, hO9, hb, hkp⟩
        have D2 := qh hb
        have HO9 := qh hO9
        have e52 := qh ((hkp gx (by omega) lx1).trans e51.out)
        have BB := qh (HB.out.trans ((D1.out.mono lz).trans hb))
        ((try dsimp only); refine nxK hK _ _ (hS.out _ e52.out) ?_; clear hK K; (try simp only [Act.put, pS, pZ, pC]))
        clear hb hO9 hkp
        repeat ((first | refine wpMix_skip (by rfl) (by rfl) ?_ | (refine wpMix_take (v := ?_) (by rfl) (by rfl) (fun wS hSt => ?_) ?_; rotate_left; (focus ((try dsimp only at hSt); (go_simp <;> with_reducible rfl); done)))); (try simp only [Act.put, pS, pZ, pC]))
        refine wpMix_nil ?_
        go_wp2_with fail
        go_roundw
        case measure => simp [intOf]; omega
        case rel => exact ⟨k + 1, m, cc, Ab, by go_num, by omega, rfl, by rw [HT.out]; exact HO9.out, BB.out⟩
    · obtain rfl : k = n := by omega
      rw [List.take_of_length_le (by have := Hl.out; omega)] at HO
      go_wp2_with fail
      go_ret
      exact ⟨_, _, _, rfl, HO.out, HB.out⟩

set_option maxRecDepth 100000 in
set_option maxHeartbeats 800000 in
theorem firstAllI_any (A1 A : Option Addr) (n1 c1 n c : Nat) (room : List Int) (ts : List Tk) (w : World) (h1 : RdI w w.heap.size A1 n1 room) (h : RdT w w.heap.size A n ts) (hok : tasksOk room ts = true) :
    Calls Tryz.prog 10 #[.slice A1 n1 c1, .slice A n c] w fun e w' => ∃ A' m c', e = .returned (.slice A' m c') ∧ OwnBR w' w.heap.size (.slice A' m c') m (allB (firstB room) ts) ∧ Below w.heap.size w w' := by
  have H1 := qh h1
  have H := qh h
  have Hok := qh hok
  clear h1 h
  go_enter Tryz.func10, Tryz.ntmps10
  go_wp2_with fail
  refine (tasksValidI_any A1 A n1 c1 n c room ts w H1.out H.out).mono ?_; rintro e w1 ⟨rfl, hb⟩
  rw [hok]
  have HB := qh hb
  have lz := hb.size
  clear hok hb
  go_wp2_with fail
  refine (allFirstI_any A1 A n1 c1 n c room ts w1 (H1.out.up HB.out) (H.out.up HB.out) Hok.out).mono ?_; rintro e w2 ⟨A', m, c', rfl, hO, hb⟩
  have HO := qh hO
  have B2 := qh (HB.out.trans (hb.mono lz))
  clear hO hb
  go_wp2_with fail
  go_ret
  exact ⟨_, _, _, rfl, obr_low HO.out lz, B2.out⟩

set_option maxRecDepth 100000 in
set_option maxHeartbeats 800000 in
theorem bestAllI_any (A1 A : Option Addr) (n1 c1 n c : Nat) (room : List Int) (ts : List Tk) (w : World) (h1 : RdI w w.heap.size A1 n1 room) (h : RdT w w.heap.size A n ts) (hok : tasksOk room ts = true) :
    Calls Tryz.prog 11 #[.slice A1 n1 c1, .slice A n c] w fun e w' => ∃ A' m c', e = .returned (.slice A' m c') ∧ OwnBR w' w.heap.size (.slice A' m c') m (allB (bestB room) ts) ∧ Below w.heap.size w w' := by
  have H1 := qh h1
  have H := qh h
  have Hok := qh hok
  clear h1 h
  go_enter Tryz.func11, Tryz.ntmps11
  go_wp2_with fail
  refine (tasksValidI_any A1 A n1 c1 n c room ts w H1.out H.out).mono ?_; rintro e w1 ⟨rfl, hb⟩
  rw [hok]
  have HB := qh hb
  have lz := hb.size
  clear hok hb
  go_wp2_with fail
  refine (allBestI_any A1 A n1 c1 n c room ts w1 (H1.out.up HB.out) (H.out.up HB.out) Hok.out).mono ?_; rintro e w2 ⟨A', m, c', rfl, hO, hb⟩
  have HO := qh hO
  have B2 := qh (HB.out.trans (hb.mono lz))
  clear hO hb
  go_wp2_with fail
  go_ret
  exact ⟨_, _, _, rfl, obr_low HO.out lz, B2.out⟩

set_option maxRecDepth 100000 in
set_option maxHeartbeats 800000 in
theorem tasksSortI_any (A1 A : Option Addr) (n1 c1 n c : Nat) (room : List Int) (ts : List Tk) (w : World) (h1 : RdI w w.heap.size A1 n1 room) (h : RdT w w.heap.size A n ts) (hok : tasksOk room ts = true) :
    Calls Tryz.prog 34 #[.slice A1 n1 c1, .slice A n c] w fun e w' => ∃ A' c', e = .returned (.slice A' n c') ∧ RdT w' w'.heap.size A' n (sortP ts) ∧ Below w.heap.size w w' := by
  have H1 := qh h1
  have H := qh h
  have Hok := qh hok
  have Es := qh (heap_sort (tasksOk_nodup hok))
  have hn14 : n ≤ 14 := by rw [← h.len]; exact tasksOk_len hok
  clear h1 h
  go_enter Tryz.func34, Tryz.ntmps34
  go_wp2_with fail
  refine (tasksValidI_any A1 A n1 c1 n c room ts w H1.out H.out).mono ?_; rintro e w1 ⟨rfl, hb⟩
  rw [hok]
  have HB := qh hb
  have lz := hb.size
  clear hok hb
  go_wp2_with fail
  refine (sorted_any A n c ts w1 (H.out.up HB.out) (sm_okS Hok.out) (by omega)).mono ?_; rintro e w2 ⟨A', c', vs, rfl, hO, hN, hb⟩
  have HR := qh (show RdT w2 w2.heap.size A' n (sortP ts) from by rw [← Es.out]; exact hN.rd hO)
  have B2 := qh (HB.out.trans (hb.mono lz))
  clear hO hN hb
  go_wp2_with fail
  go_ret
  exact ⟨_, _, rfl, HR.out, B2.out⟩

set_option maxRecDepth 100000 in
set_option maxHeartbeats 800000 in
theorem downAllI_any (A1 A : Option Addr) (n1 c1 n c : Nat) (room : List Int) (ts : List Tk) (w : World) (h1 : RdI w w.heap.size A1 n1 room) (h : RdT w w.heap.size A n ts) (hok : tasksOk room ts = true) :
    Calls Tryz.prog 12 #[.slice A1 n1 c1, .slice A n c] w fun e w' => ∃ A' m c', e = .returned (.slice A' m c') ∧ OwnBR w' w.heap.size (.slice A' m c') m (allB (firstB room) (sortP ts)) ∧ Below w.heap.size w w' := by
  have H1 := qh h1
  have H := qh h
  have Hok := qh hok
  clear h1 h hok
  go_enter Tryz.func12, Tryz.ntmps12
  go_wp2_with fail
  refine (tasksSortI_any A1 A n1 c1 n c room ts w H1.out H.out Hok.out).mono ?_; rintro e w1 ⟨A2, c2, rfl, hr, hb⟩
  have R1 := qh hr
  have HB := qh hb
  have lz := hb.size
  clear hr hb
  go_wp2_with fail
  refine (firstAllI_any A1 A2 n1 c1 n c2 room (sortP ts) w1 (H1.out.up HB.out) R1.out (tasksOk_perm (sort_perm ts) Hok.out)).mono ?_; rintro e w2 ⟨A', m, c', rfl, hO, hb⟩
  have HO := qh hO
  have B2 := qh (HB.out.trans (hb.mono lz))
  clear hO hb
  go_wp2_with fail
  go_ret
  exact ⟨_, _, _, rfl, obr_low HO.out lz, B2.out⟩

set_option maxRecDepth 100000 in
set_option maxHeartbeats 800000 in
theorem downBestI_any (A1 A : Option Addr) (n1 c1 n c : Nat) (room : List Int) (ts : List Tk) (w : World) (h1 : RdI w w.heap.size A1 n1 room) (h : RdT w w.heap.size A n ts) (hok : tasksOk room ts = true) :
    Calls Tryz.prog 13 #[.slice A1 n1 c1, .slice A n c] w fun e w' => ∃ A' m c', e = .returned (.slice A' m c') ∧ OwnBR w' w.heap.size (.slice A' m c') m (allB (bestB room) (sortP ts)) ∧ Below w.heap.size w w' := by
  have H1 := qh h1
  have H := qh h
  have Hok := qh hok
  clear h1 h hok
  go_enter Tryz.func13, Tryz.ntmps13
  go_wp2_with fail
  refine (tasksSortI_any A1 A n1 c1 n c room ts w H1.out H.out Hok.out).mono ?_; rintro e w1 ⟨A2, c2, rfl, hr, hb⟩
  have R1 := qh hr
  have HB := qh hb
  have lz := hb.size
  clear hr hb
  go_wp2_with fail
  refine (bestAllI_any A1 A2 n1 c1 n c2 room (sortP ts) w1 (H1.out.up HB.out) R1.out (tasksOk_perm (sort_perm ts) Hok.out)).mono ?_; rintro e w2 ⟨A', m, c', rfl, hO, hb⟩
  have HO := qh hO
  have B2 := qh (HB.out.trans (hb.mono lz))
  clear hO hb
  go_wp2_with fail
  go_ret
  exact ⟨_, _, _, rfl, obr_low HO.out lz, B2.out⟩

end Go.Proofs.YtdgeicdiiakhjaaGreat

namespace Go.Proofs.YtdgeicdiiakhjaaGreat
set_option linter.unusedSimpArgs false
set_option linter.unusedVariables false
open Go Go.RowKit
attribute [local go_sem ↓] Go.wp_at_zero Go.wp_at_succ

set_option maxRecDepth 100000 in
set_option maxHeartbeats 800000 in
theorem boundFn_any (g : Nat) (A1 : Option Addr) (n1 c1 i : Nat) (room : List Int) (x : Int) (w : World) (h1 : RdI w w.heap.size A1 n1 room) (hn1 : 3 ≤ n1) (hi : i < 3) (hg : w.cell? ⟨g, 0, none⟩ = some (.slice A1 n1 c1))
    (hx : 0 ≤ x ∧ x ≤ 1000000) (hr : ∀ j : Nat, j < 3 → 1 ≤ room[j]?.getD 0 ∧ room[j]?.getD 0 ≤ 1000) :
    Calls Tryz.prog 60 #[.int .i64 (i : Int), .int .i64 x, .pointer (some ⟨g, 0, none⟩)] w fun e w' => e = .returned (.int .i64 ((x + room[i]?.getD 0 - 1).tdiv (room[i]?.getD 0))) ∧ ∃ m, w.drewN m = w' := by
  obtain ⟨b1, o1, rfl, hb1, hc1⟩ := h1.at_ (show i < n1 by omega)
  obtain ⟨r1, r2⟩ := hr i hi
  have k1 : (0 : Int) ≤ (i : Int) := by omega
  have k2 : (i : Int) < (n1 : Int) := by omega
  clear h1 hr
  generalize room[i]?.getD 0 = r at *
  have e0 : (r == 0) = false := by simp; omega
  have e1 : IntKind.i64.wrap (x + r) = x + r := wr64 (by omega) (by omega)
  have e2 : IntKind.i64.wrap (x + r - 1) = x + r - 1 := wr64 (by omega) (by omega)
  have e3 : IntKind.i64.wrap ((x + r - 1).tdiv r) = (x + r - 1).tdiv r := IntWalk.i64_quo' _ _ ⟨by omega, by omega, by omega⟩
  go_enter Tryz.func60, Tryz.ntmps60
  go_wp2
  go_quiet (fail)
  go_wp2
  go_ret
  exact ⟨rfl, _, rfl⟩

/-- The greatest of the first k quotients. -/
def sumTo (room : List Int) (ts : List Tk) : Nat → Int
  | 0 => 0
  | k + 1 => max (sumTo room ts k) (sumD room ts k)
theorem sumTo_all (room : List Int) (ts : List Tk) : sumTo room ts 3 = sumB room ts := rfl

set_option maxRecDepth 100000 in
set_option maxHeartbeats 800000 in
theorem greatest_any (g : Nat) (A1 A : Option Addr) (n1 c1 c : Nat) (room : List Int) (ts : List Tk) (w : World) (h1 : RdI w w.heap.size A1 n1 room) (h : RdI w w.heap.size A 3 (loadP ts)) (hn1 : 3 ≤ n1) (hg : w.cell? ⟨g, 0, none⟩ = some (.slice A1 n1 c1))
    (hx : ∀ j : Nat, j < 3 → 0 ≤ (loadP ts)[j]?.getD 0 ∧ (loadP ts)[j]?.getD 0 ≤ 1000000) (hr : ∀ j : Nat, j < 3 → 1 ≤ room[j]?.getD 0 ∧ room[j]?.getD 0 ≤ 1000) :
    Calls Tryz.prog 59 #[.slice A 3 c, .func (.func 60) #[] #[.pointer (some ⟨g, 0, none⟩)]] w fun e w' => e = .returned (.int .i64 (sumB room ts)) ∧ ∃ m, w.drewN m = w' := by
  have H1 := qh h1
  have H := qh h
  have Hg := qh hg
  have Hx := qh hx
  have Hr := qh hr
  clear h1 h hg hx hr
  go_enter Tryz.func59, Tryz.ntmps59
  go_wp2_with fail
  go_loopw [5, 10] (fun v i wr => ∃ k m : Nat, i = .int .i64 (k : Int) ∧ k ≤ 3 ∧ v = .int .i64 (sumTo room ts k) ∧ wr = w.drewN m) (fun _ i _ => 3 - (intOf i).toNat)
  case atStart => exact ⟨0, 0, rfl, Nat.zero_le _, rfl, rfl⟩
  case round =>
    obtain ⟨k, m, rfl, hk, rfl, rfl⟩ := hrel
    by_cases hlt : k < 3
    · obtain ⟨b2, o2, rfl, hb2, hc2⟩ := H.out.at_ hlt
      have k1 : (0 : Int) ≤ (k : Int) := by omega
      have k2 : (k : Int) < 3 := by omega
      have key := boundFn_any g A1 n1 c1 k room ((loadP ts)[k]?.getD 0) (w.drewN m) (H1.out.drewN m) hn1 hlt Hg.out (Hx.out k hlt) Hr.out
      have Key := qh key
      have Es := qh (show sumTo room ts (k + 1) = max (sumTo room ts k) (((loadP ts)[k]?.getD 0 + room[k]?.getD 0 - 1).tdiv (room[k]?.getD 0)) from rfl)
      clear key
      generalize sumTo room ts k = sk at Es ⊢
      go_wp2_with fail
      refine Key.out.mono ?_; rintro e w2 ⟨rfl, m2, rfl⟩
      generalize ((loadP ts)[k]?.getD 0 + room[k]?.getD 0 - 1).tdiv (room[k]?.getD 0) = q at Es ⊢
      go_wp2_with fail
      go_roundw
      case measure => simp [intOf]; omega
      case rel => exact ⟨k + 1, _, by go_num, by omega, by rw [Es.out]; congr 1; split <;> omega, rfl⟩
    · obtain rfl : k = 3 := by omega
      go_wp2_with fail
      go_ret
      exact ⟨rfl, m, rfl⟩
set_option maxRecDepth 100000 in
set_option maxHeartbeats 800000 in
theorem clash_any (A1 A2 A3 : Option Addr) (n1 c1 c2 c3 : Nat) (room : List Int) (i2 i3 : Int) (xs ys : List Int) (w : World) (h1 : RdI w w.heap.size A1 n1 room) (h2 : RdI w w.heap.size A2 3 xs) (h3 : RdI w w.heap.size A3 3 ys) (hn1 : 3 ≤ n1)
    (hx : ∀ j : Nat, 0 ≤ xs[j]?.getD 0 ∧ xs[j]?.getD 0 ≤ 20) (hy : ∀ j : Nat, 0 ≤ ys[j]?.getD 0 ∧ ys[j]?.getD 0 ≤ 20) :
    Calls Tryz.prog 61 #[.slice A1 n1 c1, .agg #[.int .i64 i2, .slice A2 3 c2], .agg #[.int .i64 i3, .slice A3 3 c3]] w fun e w' => e = .returned (.bool (clashP room (i2, xs) (i3, ys))) ∧ Below w.heap.size w w' := by
  have sz : (w.alloc (.cells #[.int .i64 i2, .slice A2 3 c2] 43)).heap.size = w.heap.size + 1 := World.size_alloc _ _
  have B1 := qh ((alloc_up w (.cells #[.int .i64 i2, .slice A2 3 c2] 43)).alloc (by rw [sz]; omega) (.cells #[.int .i64 i3, .slice A3 3 c3] 43))
  have P1 := qh ((Blk.new w 43 #[.int .i64 i2, .slice A2 3 c2]).alloc (.cells #[.int .i64 i3, .slice A3 3 c3] 43))
  have hq := Blk.new (w.alloc (.cells #[.int .i64 i2, .slice A2 3 c2] 43)) 43 #[.int .i64 i3, .slice A3 3 c3]
  rw [sz] at hq
  have Q1 := qh hq
  have H1 := qh (h1.up B1.out)
  have H2 := qh (h2.up B1.out)
  have H3 := qh (h3.up B1.out)
  clear h1 h2 h3 hq sz
  go_enter Tryz.func61, Tryz.ntmps61
  have x1 := P1.out.cell 1
  have y1 := Q1.out.cell 1
  simp only [gT, gZ, gS] at x1 y1
  go_wp2_with fail
  generalize (w.alloc (.cells #[.int .i64 i2, .slice A2 3 c2] 43)).alloc (.cells #[.int .i64 i3, .slice A3 3 c3] 43) = w1 at B1 P1 Q1 H1 H2 H3 x1 y1 ⊢
  refine (plus_any A2 A3 3 c2 3 c3 xs ys w1 H2.out H3.out (Nat.le_refl _) (Nat.le_refl _) (fun j _ => by have := hx j; omega) (fun j _ => by have := hy j; omega)).mono ?_; rintro e w2 ⟨A4, c4, rfl, hR, hb⟩
  have R2 := qh hR
  have B2 := qh (B1.out.trans (hb.mono B1.out.size))
  have H12 := qh (H1.out.up hb)
  clear hR hb x1 y1
  go_wp2_with fail
  refine (fits_any A4 A1 c4 n1 c1 _ _ (add3 xs ys) room w2 R2.out H12.out hn1).mono ?_; rintro e w3 ⟨rfl, rfl⟩
  have E0 := qh (show clashP room (i2, xs) (i3, ys) = !fits3 (add3 xs ys) room from rfl)
  generalize fits3 (add3 xs ys) room = b at E0 ⊢
  go_wp2_with fail
  go_ret
  exact ⟨by rw [E0.out]; rfl, B2.out⟩

set_option maxRecDepth 100000 in
set_option maxHeartbeats 1600000 in
theorem boundSum_any (A1 A : Option Addr) (n1 c1 n c : Nat) (room : List Int) (ts : List Tk) (w : World) (h1 : RdI w w.heap.size A1 n1 room) (h : RdT w w.heap.size A n ts) (hok : tasksOk room ts = true) :
    Calls Tryz.prog 35 #[.slice A1 n1 c1, .slice A n c] w fun e w' => e = .returned (.int .i64 (sumB room ts)) ∧ Below w.heap.size w w' := by
  have B1 := qh (alloc_up w (.cells #[.slice A1 n1 c1] 23))
  have P1 := qh (Blk.new w 23 #[.slice A1 n1 c1])
  have H1 := qh (h1.up B1.out)
  have H := qh (h.up B1.out)
  have Hl := qh h.len
  have Hok := qh hok
  have hn14 : n ≤ 14 := by rw [← h.len]; exact tasksOk_len hok
  have hn1 : 3 ≤ n1 := by have := h1.len; have := roomOk_len hok; omega
  have Hv := qh (vecs_at (fun t ht => tasksOk_vec hok ht))
  clear h1 h
  go_enter Tryz.func35, Tryz.ntmps35
  have x0 := P1.out.cell 0
  simp only [gT, gZ, gS] at x0
  go_wp2_with fail
  generalize hgx : w.heap.size = gx at P1 x0 ⊢
  generalize w.alloc (.cells #[.slice A1 n1 c1] 23) = w1 at B1 P1 H1 H x0 ⊢
  have lgx := P1.out.lt
  refine (tasksValidI_any A1 A n1 c1 n c room ts w1 H1.out H.out).mono ?_; rintro e w2 ⟨rfl, hb⟩
  rw [hok]
  have B2 := qh hb
  have lz := hb.size
  clear hok hb x0
  go_wp2_with fail
  refine (loadOf_any A n c ts w2 (H.out.up B2.out) (by omega) (fun j hj => Hv.out.1 j (by have := Hl.out; omega)) Hv.out.2).mono ?_; rintro e w3 ⟨A4, c4, rfl, hR, hb⟩
  have R3 := qh hR
  have B3 := qh (B2.out.trans (hb.mono lz))
  clear hR hb
  have HL := qh (show ∀ i, i < 3 → 0 ≤ (loadP ts)[i]?.getD 0 ∧ (loadP ts)[i]?.getD 0 ≤ 1000000 from fun i hi => by
    have := loadP_bd Hv.out.2 (k := ts.length) (Nat.le_refl _) i hi
    rw [List.take_length] at this
    have := Hl.out
    omega)
  have hmf : ∀ (fn : Fn) (first cap : Array Value) (w : World), (Instr.makeFunc fn first cap).run Tryz.prog w = .ok (.func fn first cap) w := fun _ _ _ _ => rfl
  go_wp2_with fail
  refine (greatest_any gx A1 A4 n1 c1 c4 room ts w3 (H1.out.up B3.out) R3.out hn1 ((P1.out.below B3.out lgx).cell 0) HL.out (fun j hj => ⟨room_pos Hok.out hj, (room_bd Hok.out j hj).2⟩)).mono ?_; rintro e w4 ⟨rfl, m, rfl⟩
  have B4 := qh (B1.out.trans ((below_drewN B3.out m).mono (by omega)))
  clear hmf
  go_wp2_with fail
  go_ret
  exact ⟨rfl, B4.out⟩

end Go.Proofs.YtdgeicdiiakhjaaGreat

namespace Go.Proofs.YtdgeicdiiakhjaaGreat
set_option linter.unusedSimpArgs false
set_option linter.unusedVariables false
open Go Go.RowKit
attribute [local go_sem ↓] Go.wp_at_zero Go.wp_at_succ

def apTo (room : List Int) (ts : List Tk) (k : Nat) : List Tk := (ts.take k).foldl (apartStep room) []
theorem apTo_succ {room : List Int} {ts : List Tk} {k : Nat} (h : k < ts.length) : apTo room ts (k + 1) = apartStep room (apTo room ts k) (ts[k]?.getD (0, [])) := by
  unfold apTo
  rw [List.take_succ_eq_append_getElem h, List.foldl_append, List.getElem?_eq_getElem h]
  rfl
theorem apart_mem {room : List Int} {ts : List Tk} {k j : Nat} (hj : j < (apTo room ts k).length) : (apTo room ts k)[j]?.getD (0, []) ∈ ts := by
  have h := (apart_facts room (ts.take k)).2
  exact List.take_subset _ _ (h.subset (getD_mem hj))
theorem apart_len (room : List Int) (ts : List Tk) (k : Nat) : (apTo room ts k).length ≤ ts.length := by
  have h := (apart_facts room (ts.take k)).2.length_le
  have : (ts.take k).length ≤ ts.length := by rw [List.length_take]; omega
  show (apartP room (ts.take k)).length ≤ _
  omega
theorem step_yes {room : List Int} {tk : List Tk} {x : Tk} (h : ∀ a, a < tk.length → clashP room x (tk[a]?.getD (0, [])) = true) : apartStep room tk x = tk ++ [x] := by
  unfold apartStep
  rw [if_pos (allT_iff.2 h)]
theorem step_no {room : List Int} {tk : List Tk} {x : Tk} {a : Nat} (ha : a < tk.length) (h : clashP room x (tk[a]?.getD (0, [])) = false) : apartStep room tk x = tk := by
  unfold apartStep
  rw [if_neg (fun h2 => by have := allT_iff.1 h2 a ha; rw [h] at this; cases this)]

set_option maxRecDepth 100000 in
set_option maxHeartbeats 3200000 in
theorem boundApart_any (A1 A : Option Addr) (n1 c1 n c : Nat) (room : List Int) (ts : List Tk) (w : World) (h1 : RdI w w.heap.size A1 n1 room) (h : RdT w w.heap.size A n ts) (hok : tasksOk room ts = true) :
    Calls Tryz.prog 36 #[.slice A1 n1 c1, .slice A n c] w fun e w' => e = .returned (.int .i64 ((apartP room ts).length : Int)) ∧ Below w.heap.size w w' := by
  obtain ⟨t0, ht0, htz0, htz1, htz2⟩ := info_parts task_info
  have H1 := qh h1
  have H := qh h
  have Hl := qh h.len
  have Hok := qh hok
  have hn14 : n ≤ 14 := by rw [← h.len]; exact tasksOk_len hok
  have hn1 : 3 ≤ n1 := by have := h1.len; have := roomOk_len hok; omega
  have Hv := qh (fun t (ht : t ∈ ts) => vecOk_bd (tasksOk_vec hok ht))
  have Hv3 := qh (fun t (ht : t ∈ ts) => vecOk_len (tasksOk_vec hok ht))
  clear h1 h
  go_enter Tryz.func36, Tryz.ntmps36
  go_wp2_with fail
  go_step3
  go_wp2_with fail
  refine (tasksValidI_any A1 A n1 c1 n c room ts w H1.out H.out).mono ?_; rintro e w1 ⟨rfl, hb⟩
  rw [hok]
  have B1 := qh hb
  have lz1 := hb.size
  have O0 := qh (show (w1.alloc (.cells #[] 43)).ownsRow w.heap.size 43 2 (.slice (some ⟨w1.heap.size, 0, none⟩) 0 0) 0 [] from World.ownsRow_made w1 #[] 0 lz1 (by unfold maxLen; omega) rfl)
  have B0 := qh (B1.out.alloc lz1 (.cells #[] 43))
  clear hok hb
  go_wp2_with fail
  go_step3
  go_wp2_with fail
  go_loopg [5, 17] n (fun gh v i wr => ∃ (k m cc : Nat) (Ab : Option Addr) (vs : List Value), k + gh = n ∧ i = .int .i64 (k : Int) ∧ v = .slice Ab m cc ∧ wr.ownsRow w.heap.size 43 2 (.slice Ab m cc) m vs ∧ TkCells wr w.heap.size vs (apTo room ts k) ∧ Below w.heap.size w wr)
  case atStart => exact ⟨0, 0, 0, _, [], by omega, rfl, rfl, O0.out, TkCells.nil, B0.out⟩
  case round =>
    clear O0 B0 B1 lz1
    obtain ⟨go_, rfl⟩ : ∃ g, g = gk := ⟨_, rfl⟩
    obtain ⟨k, m, cc, Ab, vs, hk, rfl, rfl, hO, hT, hB⟩ := hrel
    have hml : (apTo room ts k).length = m := by have := hO.1; have := hT.1; omega
    have Hml := qh hml
    have hm14 : m ≤ 14 := by have := apart_len room ts k; have := Hl.out; omega
    have HO := qh hO
    have HT := qh hT
    have HB := qh hB
    have Hk := qh hk
    have lz := hB.size
    clear hO hT hB hml hk
    by_cases hlt : k < n
    · obtain ⟨bt, ot, Ax, mx, cx, rfl, lt, ht0, ht1, hcx, hrx⟩ := (H.out.below HB.out).at_ hlt
      have hmem : ts[k]?.getD (0, []) ∈ ts := getD_mem (by have := Hl.out; omega)
      have HS := qh (apTo_succ (room := room) (ts := ts) (k := k) (by have := Hl.out; omega))
      have hxv := qh (Hv.out _ hmem)
      have hx3 := Hv3.out _ hmem
      have HAM := qh (fun j (hj : j < m) => (apart_mem (room := room) (ts := ts) (k := k) (j := j) (by have := Hml.out; omega)))
      generalize ts[k]?.getD (0, []) = tj at *
      obtain ⟨tid, txs⟩ := tj
      dsimp only at ht0 ht1 hrx hx3 hxv
      obtain rfl : mx = 3 := by have := hrx.len; omega
      have HX := qh hrx
      clear hrx hmem hx3
      have k1 : (0 : Int) ≤ (k : Int) := by omega
      have k2 : (k : Int) < (n : Int) := by omega
      have k3 : 0 ≤ (k : Int) * 2 := by omega
      have w1' : IntKind.i64.wrap ((k : Int) + 1) = (k : Int) + 1 := wr64 (by omega) (by omega)
      generalize apTo room ts k = tk at *
      have al := alloc_up wr (.cells #[.int .i64 tid, .slice Ax 3 cx] 43)
      have B5 := qh (HB.out.trans (al.mono lz))
      have O5 := qh (own_up' HO.out al)
      have T5 := qh (HT.out.below (al.mono lz))
      have X5 := qh (HX.out.below (al.mono lz))
      have P5 := qh (Blk.new wr 43 #[.int .i64 tid, .slice Ax 3 cx])
      clear HO HT HB HX al
      go_wp2_with fail
      obtain ⟨wo, rfl⟩ : ∃ wo, wo = wr := ⟨_, rfl⟩
      generalize hgx : wo.heap.size = gx at P5 ⊢
      generalize wo.alloc (.cells #[.int .i64 tid, .slice Ax 3 cx] 43) = w5 at B5 O5 T5 X5 P5 ⊢
      have lgx := P5.out.lt
      have lz5 := B5.out.size
      clear ht0 ht1
      go_loopg [23] m (fun g2 i wr => ∃ j : Nat, j + g2 = m ∧ i = .int .i64 (j : Int) ∧ (∀ a, a < j → clashP room (tid, txs) (tk[a]?.getD (0, [])) = true) ∧ Below w5.heap.size w5 wr)
      case atStart => exact ⟨0, by omega, rfl, fun a ha => by omega, Below.refl _ _⟩
      case round =>
        obtain ⟨j, hj, rfl, hall, hb⟩ := hrel
        have HJ := qh hj
        have HA := qh hall
        have BJ := qh hb
        have lzj := hb.size
        have lgxj : gx < wr.heap.size := by omega
        have XJ := qh (X5.out.below (hb.mono lz5))
        have OJ := qh (own_up' O5.out hb)
        have TJ := qh (T5.out.below (hb.mono lz5))
        have PJ := qh (P5.out.below hb lgx)
        have BW := qh (B5.out.trans (hb.mono lz5))
        have p0 := PJ.out.cell 0
        have p1 := PJ.out.cell 1
        simp only [gT, gZ, gS] at p0 p1
        clear hj hall hb
        by_cases hjm : j < m
        · obtain ⟨by_, oy, Ay, my, cy, rfl, ly, hy0, hy1, hcy, hry⟩ := (RdT.of_own OJ.out TJ.out (by omega) (by omega)).at_ hjm
          have hmem := HAM.out j hjm
          have hyv := qh (Hv.out _ hmem)
          have hy3 := Hv3.out _ hmem
          have Hal := qh (fun (hc : clashP room (tid, txs) (tk[j]?.getD (0, [])) = true) (a : Nat) (ha : a < j + 1) => (show clashP room (tid, txs) (tk[a]?.getD (0, [])) = true from by
            rcases Nat.lt_or_ge a j with h | h
            · exact HA.out a h
            · have : a = j := by omega
              rw [this]; exact hc))
          have Hno := qh (fun (hc : clashP room (tid, txs) (tk[j]?.getD (0, [])) = false) => step_no (room := room) (x := (tid, txs)) (tk := tk) (by have := Hml.out; omega) hc)
          generalize tk[j]?.getD (0, []) = yj at *
          obtain ⟨yid, yxs⟩ := yj
          dsimp only at hy0 hy1 hry hy3 hyv
          obtain rfl : my = 3 := by have := hry.len; omega
          have HY := qh hry
          clear hry hmem hy3
          have j1 : (0 : Int) ≤ (j : Int) := by omega
          have j2 : (j : Int) < (m : Int) := by omega
          have j3 : 0 ≤ (j : Int) * 2 := by omega
          have w2' : IntKind.i64.wrap ((j : Int) + 1) = (j : Int) + 1 := wr64 (by omega) (by omega)
          have al := alloc_up wr (.cells #[.int .i64 yid, .slice Ay 3 cy] 43)
          have key := clash_any A1 Ax Ay n1 c1 cx cy room tid yid txs yxs (wr.alloc (.cells #[.int .i64 yid, .slice Ay 3 cy] 43)) ((H1.out.up BW.out).up al) ((XJ.out.more (by omega)).up al) (HY.out.up al) hn1 hxv.out hyv.out
          have Key := qh key
          have Al := qh al
          clear key al
          go_wp2_with fail
          cases hc : clashP room (tid, txs) (yid, yxs) with
          | false =>
            have Hno2 := qh (Hno.out hc)
            refine Key.out.mono ?_; rintro e w9 ⟨rfl, hb9⟩
            rw [hc]
            have B9 := Al.out.trans (hb9.mono Al.out.size)
            have O9 := qh (own_up' OJ.out B9)
            have T9 := qh (TJ.out.below (B9.mono (by omega)))
            have BW9 := qh (BW.out.trans (B9.mono (by omega)))
            clear hb9 B9 hc Key Al Hno Hal p0 p1 hy0 hy1
            go_wp2_with fail
            go_roundg (go_ - 1)
            case measure => have := Hk.out; omega
            case rel => exact ⟨k + 1, m, cc, _, vs, by have := Hk.out; omega, by go_num, rfl, O9.out, by rw [HS.out, Hno2.out]; exact T9.out, BW9.out⟩
          | true =>
            have Hal2 := qh (Hal.out hc)
            refine Key.out.mono ?_; rintro e w9 ⟨rfl, hb9⟩
            rw [hc]
            have B9 := qh (BJ.out.trans ((Al.out.trans (hb9.mono Al.out.size)).mono lzj))
            clear hb9 hc Key Al Hno Hal p0 p1 hy0 hy1
            go_wp2_with fail
            go_roundg (gk - 1)
            case measure => have := HJ.out; omega
            case rel => exact ⟨j + 1, by have := HJ.out; omega, by go_num, Hal2.out, B9.out⟩
        · obtain rfl : j = m := by have := HJ.out; omega
          have Hst := qh (step_yes (room := room) (x := (tid, txs)) (tk := tk) (fun a ha => HA.out a (by have := Hml.out; omega)))
          have al := alloc_up wr (.cells #[.int .i64 tid, .slice Ax 3 cx] 43)
          have O9 := qh (own_up' OJ.out al)
          have T9 := qh ((TJ.out.append (TkCells.single (id := tid) XJ.out hcx)).below (al.mono (by omega)))
          have BW9 := qh (BW.out.trans (al.mono (by omega)))
          have S9 := qh (lit2 wr 43 (.int .i64 tid) (.slice Ax 3 cx))
          have l9 := BW9.out.size
          clear al
          go_wp2_with (at_builtin; refine wpList_append_src _ rfl _ _ 24 rfl w.heap.size 43 t0 _ 2 32 Tryz.underlying24 ht0 htz0 htz1 htz2 rfl (by omega) (.slice Ab j cc) j vs rfl O9.out (some ⟨wr.heap.size, 0, none⟩) 1 1 [.int .i64 tid, .slice Ax 3 cx] rfl S9.out (one2 _ _ rfl rfl) (by unfold maxLen; omega) (by omega) l9 ?_; intro v' wn hown6 hgrow6 hat6; obtain ⟨A8, c8, rfl⟩ := own_shape hown6)
          have BF := qh (BW9.out.grown hgrow6 l9 (fun a e => (O9.out.lt a e).1))
          have TF := qh (T9.out.keep (w' := wn) (B' := w.heap.size) (fun p hp => World.cell?_of_block (hgrow6.block p.block (by omega) (fun e => by have := (O9.out.lt _ e.symm).1; omega))) (Nat.le_refl _))
          have OF := qh hown6
          clear hown6 hgrow6 hat6
          go_roundg (go_ - 1)
          case measure => have := Hk.out; omega
          case rel => exact ⟨k + 1, j + 1, c8, A8, _, by have := Hk.out; omega, by go_num, rfl, OF.out, by rw [HS.out, Hst.out]; exact TF.out, BF.out⟩
    · obtain rfl : k = n := by have := Hk.out; omega
      have Ea := qh (show m = (apartP room ts).length from by
        have := Hml.out
        unfold apTo at this
        rw [List.take_of_length_le (by have := Hl.out; omega)] at this
        exact this.symm)
      go_wp2_with fail
      try rw [Exit.noGoto_ret]
      go_ret
      exact ⟨by rw [← Ea.out]; rfl, HB.out⟩

set_option maxRecDepth 100000 in
set_option maxHeartbeats 1600000 in
theorem boundBest_any (A1 A : Option Addr) (n1 c1 n c : Nat) (room : List Int) (ts : List Tk) (w : World) (h1 : RdI w w.heap.size A1 n1 room) (h : RdT w w.heap.size A n ts) (hok : tasksOk room ts = true) :
    Calls Tryz.prog 14 #[.slice A1 n1 c1, .slice A n c] w fun e w' => e = .returned (.int .i64 (max (sumB room ts) ((apartP room ts).length : Int))) ∧ Below w.heap.size w w' := by
  have H1 := qh h1
  have H := qh h
  have Hok := qh hok
  clear h1 h hok
  go_enter Tryz.func14, Tryz.ntmps14
  go_wp2_with fail
  refine (boundSum_any A1 A n1 c1 n c room ts w H1.out H.out Hok.out).mono ?_; rintro e w1 ⟨rfl, hb⟩
  have B1 := qh hb
  clear hb
  go_wp2_with fail
  refine (boundApart_any A1 A n1 c1 n c room ts w1 (H1.out.up B1.out) (H.out.up B1.out) Hok.out).mono ?_; rintro e w2 ⟨rfl, hb⟩
  have B2 := qh (B1.out.trans (hb.mono B1.out.size))
  clear hb
  generalize hx : sumB room ts = x
  generalize hy : ((apartP room ts).length : Int) = y
  have HX := qh hx
  have HY := qh hy
  clear hx hy
  go_wp2_with fail
  all_goals
    go_ret
    exact ⟨ret_int (by rw [HX.out, HY.out]; omega), B2.out⟩
end Go.Proofs.YtdgeicdiiakhjaaGreat
