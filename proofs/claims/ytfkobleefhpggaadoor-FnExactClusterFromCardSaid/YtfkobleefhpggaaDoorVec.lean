/- Walks: vectors of the reference (spec.l6In, VecValid, l1Fits, VecFits, l2Room, l2Has). -/
import Derived.Test.YtfkobleefhpggaaDoorPure
namespace Go.Proofs.YtfkobleefhpggaaDoor
open Go.RowKit

set_option maxHeartbeats 400000 in
theorem l6In_any (n lo hi : Int) (w : World) :
    Calls Tryd.prog 38 #[.int .i64 n, .int .i64 lo, .int .i64 hi] w fun e w' => e = .returned (.bool (inR lo hi n)) ∧ w = w' := by
  by_cases h1 : lo ≤ n
  · go_enter Tryd.func38, Tryd.ntmps38
    go_wp2
    go_ret
    simp [inR, h1]
  · have h2 : decide (lo ≤ n) = false := by simpa using h1
    go_enter Tryd.func38, Tryd.ntmps38
    go_wp2
    go_ret
    simp [inR]
    omega

set_option maxHeartbeats 400000 in
theorem vecValid_any (A : Option Addr) (n c B : Nat) (xs : List Int) (w : World) (h : RdI w B A n xs) :
    Calls Tryd.prog 88 #[.slice A n c] w fun e w' => e = .returned (.bool (vecOk xs)) ∧ w = w' := by
  have hn := h.le
  have hl := Lib.hid h.len
  go_enter Tryd.func88, Tryd.ntmps88
  go_wp2
  go_loop [3] (fun i => ∃ k : Nat, i = .int .i64 k ∧ k ≤ n ∧ (∀ j, j < k → inR 0 20 (xs[j]?.getD 0) = true)) (fun i => n - (intOf i).toNat)
  case atStart => exact ⟨0, rfl, Nat.zero_le _, by intro j hj; omega⟩
  case round =>
    obtain ⟨k, rfl, hk, hall⟩ := hrel
    have Hall := Lib.hid hall
    clear hall
    by_cases hlt : k < n
    · obtain ⟨b, o, rfl, hb, hc⟩ := h.at_ hlt
      have H := Lib.hid h
      clear h
      by_cases hin : inR 0 20 (xs[k]?.getD 0) = true
      · have Hin := Lib.hid hin
        go_wp2_with (go_at_call 38; refine (l6In_any _ _ _ _).mono ?_; rintro e w' ⟨rfl, rfl⟩)
        go_round
        case rel => exact ⟨k + 1, by go_num, by omega, fun j hj => by
          by_cases e : j = k
          · rw [e]; exact Hin.out
          · exact Hall.out j (by omega)⟩
        case measure => simp [intOf]; omega
      · have hin : inR 0 20 (xs[k]?.getD 0) = false := by simpa using hin
        have Hin := Lib.hid hin
        go_wp2_with (go_at_call 38; refine (l6In_any _ _ _ _).mono ?_; rintro e w' ⟨rfl, rfl⟩)
        go_ret
        exact ⟨ret_bool (vecOk_no (by rw [hl.out]; exact hlt) Hin.out).symm, rfl⟩
    · have H := Lib.hid h
      clear h
      go_wp2
      go_ret
      refine ⟨ret_bool ?_, rfl⟩
      rw [vecOk_of_all (fun j hj => Hall.out j (by have := hl.out; omega)), hl.out]
      rw [Bool.eq_iff_iff]
      simp
      omega

set_option maxHeartbeats 400000 in
theorem l1Fits_any (A1 A2 : Option Addr) (n1 c1 n2 c2 B1 B2 : Nat) (xs ys : List Int) (w : World) (h1 : RdI w B1 A1 n1 xs) (h2 : RdI w B2 A2 n2 ys) (hn1 : 3 ≤ n1) (hn2 : 3 ≤ n2) :
    Calls Tryd.prog 79 #[.slice A1 n1 c1, .slice A2 n2 c2] w fun e w' => e = .returned (.bool (fits3 xs ys)) ∧ ∃ m, w.drewN m = w' := by
  go_enter Tryd.func79, Tryd.ntmps79
  go_wp2
  go_loopw [5] (fun i wr => ∃ k m : Nat, i = .int .i64 k ∧ k ≤ 3 ∧ wr = w.drewN m ∧ (∀ j, j < k → xs[j]?.getD 0 ≤ ys[j]?.getD 0)) (fun i _ => 3 - (intOf i).toNat)
  case atStart => exact ⟨0, 0, rfl, Nat.zero_le _, rfl, by intro j hj; omega⟩
  case round =>
    obtain ⟨k, m, rfl, hk, rfl, hall⟩ := hrel
    have Hall := Lib.hid hall
    clear hall
    by_cases hlt : k < 3
    · obtain ⟨b1, o1, rfl, hb1, hc1⟩ := h1.at_ (show k < n1 by omega)
      obtain ⟨b2, o2, rfl, hb2, hc2⟩ := h2.at_ (show k < n2 by omega)
      have H1 := Lib.hid h1
      have H2 := Lib.hid h2
      clear h1 h2
      have k1 : (0 : Int) ≤ (k : Int) := by omega
      have k2 : (k : Int) < (n1 : Int) := by omega
      have k3 : (k : Int) < (n2 : Int) := by omega
      by_cases hle : ys[k]?.getD 0 < xs[k]?.getD 0
      · go_wp2
        go_quiet (fail)
        go_wp2
        go_ret
        exact ⟨ret_bool (fits3_no hlt hle).symm, _, (World.drewN_drewN _ _ _).symm⟩
      · go_wp2
        go_quiet (fail)
        go_wp2
        go_roundw
        case rel => exact ⟨k + 1, _, by go_num, by omega, rfl, fun j hj => by
          by_cases e : j = k
          · rw [e]; omega
          · exact Hall.out j (by omega)⟩
        case measure => simp [intOf]; omega
    · have H1 := Lib.hid h1
      have H2 := Lib.hid h2
      clear h1 h2
      go_wp2
      go_ret
      exact ⟨ret_bool (fits3_iff.2 (fun j hj => Hall.out j (by omega))).symm, _, rfl⟩
end Go.Proofs.YtfkobleefhpggaaDoor
