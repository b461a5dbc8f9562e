/- Walks: ClusterSum of both sides, l31Same. -/
import Derived.Test.YtfkobleefhpggaaDoorImplVec
import Derived.Test.YtfkobleefhpggaaDoorClRd
namespace Go.Proofs.YtfkobleefhpggaaDoor
open Go Go.RowKit
attribute [local go_sem ↓] Go.wp_at_zero Go.wp_at_succ

theorem all_no {xs : List Int} {p : Int → Bool} {k : Nat} (hk : k < xs.length) (h : p (xs[k]?.getD 0) = false) : xs.all p = false := by
  rw [← Bool.not_eq_true, all_iff_getD]
  intro hh; rw [hh k hk] at h; cases h
theorem sumP_no {xs : List Int} {k : Nat} (hk : k < xs.length) (h : inR 0 255 (xs[k]?.getD 0) = false) : sumP xs = -1 := by
  unfold sumP; rw [if_neg (by rw [all_no hk h]; simp)]
theorem sumP_long {xs : List Int} (h : 200 < xs.length) : sumP xs = -1 := by unfold sumP; rw [if_neg (by omega)]
theorem sum_arith {s b : Int} (h0 : 0 ≤ s) (h1 : s < 251) (h2 : 0 ≤ b) (h3 : b ≤ 255) :
    IntKind.i64.wrap (31 * s) = 31 * s ∧ IntKind.i64.wrap (31 * s + b) = 31 * s + b ∧ Int.tmod (31 * s + b) 251 = sumS s b ∧ IntKind.i64.wrap (sumS s b) = sumS s b ∧ 0 ≤ sumS s b ∧ sumS s b < 251 := by
  have g0 : 0 ≤ sumS s b := Int.emod_nonneg _ (by omega)
  have g1 : sumS s b < 251 := Int.emod_lt_of_pos _ (by omega)
  exact ⟨wr64 (by omega) (by omega), wr64 (by omega) (by omega), Int.tmod_eq_emod_of_nonneg (by omega), wr64 (by omega) (by omega), g0, g1⟩

set_option maxHeartbeats 800000 in
theorem clusterSumS_any (A : Option Addr) (n c B : Nat) (xs : List Int) (w : World) (h : RdI w B A n xs) :
    Calls Tryd.prog 19 #[.slice A n c] w fun e w' => e = .returned (.int .i64 (sumP xs)) ∧ w = w' := by
  have hn := h.le
  have hl := Lib.hid h.len
  have H := Lib.hid h
  clear h
  go_enter Tryd.func19, Tryd.ntmps19
  go_wp2
  go_loop [3, 4] (fun s i => ∃ k : Nat, i = .int .i64 k ∧ k ≤ n ∧ s = .int .i64 (sumF (xs.take k)) ∧ (∀ j, j < k → inR 0 255 (xs[j]?.getD 0) = true)) (fun _ i => n - (intOf i).toNat)
  case atStart => exact ⟨0, rfl, Nat.zero_le _, rfl, by intro j hj; omega⟩
  case round =>
    obtain ⟨k, rfl, hk, rfl, hall⟩ := hrel
    have Hall := Lib.hid hall
    clear hall
    obtain ⟨s0, s1⟩ := sumF_range (xs.take k)
    by_cases hlt : k < n
    · obtain ⟨b, o, rfl, hb, hc⟩ := H.out.at_ hlt
      have Hs := Lib.hid (sumF_succ (xs := xs) (k := k) (by rw [hl.out]; exact hlt))
      generalize sumF (xs.take k) = s at *
      by_cases hin : inR 0 255 (xs[k]?.getD 0) = true
      · have Hin := Lib.hid hin
        obtain ⟨b0, b1⟩ := inR_iff.1 hin
        obtain ⟨a1, a2, a3, a4, a5, a6⟩ := sum_arith s0 s1 b0 b1
        go_wp2_with (go_at_call 38; refine (l6In_any _ _ _ _).mono ?_; rintro e w' ⟨rfl, rfl⟩)
        go_round
        case rel => exact ⟨k + 1, by go_num, by omega, by rw [Hs.out], fun j hj => by
          by_cases e : j = k
          · rw [e]; exact Hin.out
          · exact Hall.out j (by omega)⟩
        case measure => simp [intOf]; omega
      · have hin : inR 0 255 (xs[k]?.getD 0) = false := by simpa using hin
        have Hin := Lib.hid hin
        go_wp2_with (go_at_call 38; refine (l6In_any _ _ _ _).mono ?_; rintro e w' ⟨rfl, rfl⟩)
        go_ret
        exact ⟨ret_int (sumP_no (by rw [hl.out]; exact hlt) Hin.out).symm, rfl⟩
    · obtain rfl : k = n := by omega
      have Hs := Lib.hid (show sumF (xs.take k) = sumF xs by rw [List.take_of_length_le (by rw [hl.out]; exact Nat.le_refl _)])
      by_cases h200 : k ≤ 200
      · go_wp2
        go_ret
        exact ⟨ret_int (by rw [Hs.out, sumP_ok (all_iff_getD.2 (fun j hj => Hall.out j (by rw [← hl.out]; exact hj))) (by rw [hl.out]; exact h200)]), rfl⟩
      · go_wp2
        go_ret
        exact ⟨ret_int (sumP_long (by rw [hl.out]; omega)).symm, rfl⟩

set_option maxHeartbeats 800000 in
theorem clusterSumI_any (A : Option Addr) (n c B : Nat) (xs : List Int) (w : World) (h : RdI w B A n xs) :
    Calls Tryd.prog 22 #[.slice A n c] w fun e w' => e = .returned (.int .i64 (sumP xs)) ∧ w = w' := by
  have hn := h.le
  have hl := Lib.hid h.len
  have H := Lib.hid h
  clear h
  by_cases h200 : 200 < n
  · go_enter Tryd.func22, Tryd.ntmps22
    go_wp2
    go_ret
    exact ⟨ret_int (sumP_long (by rw [hl.out]; omega)).symm, rfl⟩
  go_enter Tryd.func22, Tryd.ntmps22
  go_wp2
  go_loop [3, 11] (fun s i => ∃ k : Nat, i = .int .i64 k ∧ k ≤ n ∧ s = .int .i64 (sumF (xs.take k)) ∧ (∀ j, j < k → inR 0 255 (xs[j]?.getD 0) = true)) (fun _ i => n - (intOf i).toNat)
  case atStart => exact ⟨0, rfl, Nat.zero_le _, rfl, by intro j hj; omega⟩
  case round =>
    obtain ⟨k, rfl, hk, rfl, hall⟩ := hrel
    have Hall := Lib.hid hall
    clear hall
    obtain ⟨s0, s1⟩ := sumF_range (xs.take k)
    by_cases hlt : k < n
    · obtain ⟨b, o, rfl, hb, hc⟩ := H.out.at_ hlt
      have Hs := Lib.hid (sumF_succ (xs := xs) (k := k) (by rw [hl.out]; exact hlt))
      generalize sumF (xs.take k) = s at *
      by_cases hin : inR 0 255 (xs[k]?.getD 0) = true
      · have Hin := Lib.hid hin
        obtain ⟨b0, b1⟩ := inR_iff.1 hin
        obtain ⟨a1, a2, a3, a4, a5, a6⟩ := sum_arith s0 s1 b0 b1
        go_wp2_with (go_at_call 39; refine (within_any _ _ _ _).mono ?_; rintro e w' ⟨rfl, rfl⟩)
        go_round
        case rel => exact ⟨k + 1, by go_num, by omega, by rw [Hs.out], fun j hj => by
          by_cases e : j = k
          · rw [e]; exact Hin.out
          · exact Hall.out j (by omega)⟩
        case measure => simp [intOf]; omega
      · have hin : inR 0 255 (xs[k]?.getD 0) = false := by simpa using hin
        have Hin := Lib.hid hin
        go_wp2_with (go_at_call 39; refine (within_any _ _ _ _).mono ?_; rintro e w' ⟨rfl, rfl⟩)
        go_ret
        exact ⟨ret_int (sumP_no (by rw [hl.out]; exact hlt) Hin.out).symm, rfl⟩
    · obtain rfl : k = n := by omega
      have Hs := Lib.hid (show sumF (xs.take k) = sumF xs by rw [List.take_of_length_le (by rw [hl.out]; exact Nat.le_refl _)])
      go_wp2
      go_ret
      exact ⟨ret_int (by rw [Hs.out, sumP_ok (all_iff_getD.2 (fun j hj => Hall.out j (by rw [← hl.out]; exact hj))) (by rw [hl.out]; omega)]), rfl⟩

theorem getD_ext {xs ys : List Int} (h1 : xs.length = ys.length) (h : ∀ j, j < xs.length → xs[j]?.getD 0 = ys[j]?.getD 0) : xs = ys := by
  refine List.ext_getElem h1 (fun i hi hi' => ?_)
  have := h i hi
  rwa [List.getElem?_eq_getElem hi, List.getElem?_eq_getElem hi'] at this
set_option maxHeartbeats 800000 in
theorem l31Same_any (A1 A2 : Option Addr) (n1 c1 n2 c2 B1 B2 : Nat) (xs ys : List Int) (w : World) (h1 : RdI w B1 A1 n1 xs) (h2 : RdI w B2 A2 n2 ys) :
    Calls Tryd.prog 21 #[.slice A1 n1 c1, .slice A2 n2 c2] w fun e w' => e = .returned (.bool (decide (xs = ys))) ∧ ∃ m, w.drewN m = w' := by
  have hn := h1.le
  have hn2 := h2.le
  have L1 := Lib.hid h1.len
  have L2 := Lib.hid h2.len
  have H1 := Lib.hid h1
  have H2 := Lib.hid h2
  clear h1 h2
  by_cases he : n1 = n2
  · subst he
    go_enter Tryd.func21, Tryd.ntmps21
    go_wp2
    go_loopw [5] (fun i wr => ∃ k : Nat, i = .int .i64 k ∧ k ≤ n1 ∧ (∃ m, w.drewN m = wr) ∧ (∀ j, j < k → xs[j]?.getD 0 = ys[j]?.getD 0)) (fun i _ => n1 - (intOf i).toNat)
    case atStart => exact ⟨0, rfl, Nat.zero_le _, ⟨0, rfl⟩, by intro j hj; omega⟩
    case round =>
      obtain ⟨k, rfl, hk, ⟨m, rfl⟩, hall⟩ := hrel
      have Hall := Lib.hid hall
      clear hall
      by_cases hlt : k < n1
      · obtain ⟨b, o, rfl, hb, hc⟩ := H1.out.at_ hlt
        obtain ⟨b', o', rfl, hb', hc'⟩ := H2.out.at_ hlt
        have kk1 : (0 : Int) ≤ (k : Int) := by omega
        have kk2 : (k : Int) < (n1 : Int) := by omega
        by_cases hq : xs[k]?.getD 0 = ys[k]?.getD 0
        · have hne : ((xs[k]?.getD 0) != (ys[k]?.getD 0)) = false := by simp [hq]
          have Hq := Lib.hid hq
          clear hq
          go_wp2_with fail
          go_quiet (fail)
          go_wp2_with fail
          go_roundw
          case rel => exact ⟨k + 1, by go_num, by omega, ⟨_, rfl⟩, fun j hj => by
            by_cases e : j = k
            · rw [e]; exact Hq.out
            · exact Hall.out j (by omega)⟩
          case measure => simp [intOf]; omega
        · have hne : ((xs[k]?.getD 0) != (ys[k]?.getD 0)) = true := by simp [hq]
          have Hq := Lib.hid hq
          clear hq
          go_wp2_with fail
          go_quiet (fail)
          go_wp2_with fail
          go_ret
          exact ⟨ret_bool (decide_eq_false (fun e => Hq.out (by rw [e]))).symm, ⟨m + nq, by simp⟩⟩
      · obtain rfl : k = n1 := by omega
        go_wp2_with fail
        go_ret
        exact ⟨ret_bool (decide_eq_true (getD_ext (by rw [L1.out, L2.out]) (fun j hj => Hall.out j (by rw [← L1.out]; exact hj)))).symm, ⟨m, rfl⟩⟩
  · go_enter Tryd.func21, Tryd.ntmps21
    go_wp2
    go_ret
    exact ⟨ret_bool (decide_eq_false (fun e => he (by rw [← L1.out, ← L2.out, e]))).symm, ⟨0, rfl⟩⟩
end Go.Proofs.YtfkobleefhpggaaDoor
